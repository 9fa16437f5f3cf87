/-
  Rows of facts, element by element; package royaltyref06: SameFacts: what it returns; only new memory is written.
-/
import Derived.Test.YtnlphbfjeekooaaGreatDoorMO
import Derived.Test.YtnlphbfjeekooaaGreatDoorLw3
import Derived.Deep.Slices
import Derived.Test.YtnlphbfjeekooaaGreatDoorFCard
namespace Go.Proofs.YtnlphbfjeekooaaGreatDoor
open Go.RowKit RG
theorem ix_fcF {b o n c : Nat} {j : Nat} (hj : j < n) (W : World) : (Instr.indexAt 22 (.slice (some ⟨b, o, none⟩) n c) (.int .i64 j)).run Tryz.prog W = .ok (.pointer (some ⟨b, o + j * 18, none⟩)) W := by
  go_simp
theorem fact_sizeF (x : RW.Fc) : (Tryz.prog.info? 38).map (·.size) = some (RW.fce x).length := by kernel_rfl
/-- an element is read -/
theorem factR_cell {W : World} {v : Value} {l : List RW.Fc} {j : Nat} {y : RW.Fc} (h : FactsV W v l) (hy : l[j]? = some y) : ∃ g o c, v = .slice (some ⟨g, o, none⟩) l.length c ∧ ∀ W', Below W.heap.size W W' → (ldRow 38 (.pointer (some ⟨g, o + j * 18, none⟩))).run Tryz.prog W' = .ok (RW.fv y) W' := by
  have hne : l ≠ [] := by rintro rfl; simp at hy
  obtain ⟨b, o, c, rfl, _, hb, hc⟩ := h.at hne
  refine ⟨b, o, c, rfl, fun W' hB => ?_⟩
  exact ldRow_mid (fun i u hi => (World.cell?_of_block (a := ⟨b, o + j * 18 + i, none⟩) (hB.block _ hb)).trans (hc j y hy i u hi)) Tryz.underlying38 rfl (fact_sizeF y)
theorem neq_factF (f g : Nat → Int) (s u : ByteArray) (W : World) : (binOp .neq 38 (.agg (RW.fcells f s)) (.agg (RW.fcells g u))).run Tryz.prog W = .ok (.bool (!RW.dec ((∀ i, i < 17 → f i = g i) ∧ s = u))) W := by
  have h := eql_fact f g s u W
  rw [run_eql_struct] at h
  rw [run_neq_struct]
  cases hq : (Op.equalIn 10000 38 (.agg (RW.fcells f s)) (.agg (RW.fcells g u))).run Tryz.prog W with
  | ok b w' => rw [hq] at h; simp at h; obtain ⟨h1, h2⟩ := h; subst h1 h2; simp
  | _ => rw [hq] at h; simp at h
namespace RW
noncomputable def feB (x y : Fc) : Bool := dec ((∀ i, i < 17 → x.1 i = y.1 i) ∧ x.2 = y.2)
theorem feB_of {x y : Fc} (h : fv x = fv y) : feB x y = true := by
  unfold fv fcells at h
  simp only [Value.agg.injEq, Array.mk.injEq, List.cons.injEq, Value.int.injEq, Value.string.injEq, true_and, and_true] at h
  obtain ⟨h0, h1, h2, h3, h4, h5, h6, h7, h8, h9, h10, h11, h12, h13, h14, h15, h16, hs⟩ := h
  refine dec_true ⟨fun i hi => ?_, hs⟩
  rcases i with _ | _ | _ | _ | _ | _ | _ | _ | _ | _ | _ | _ | _ | _ | _ | _ | _ | i
  all_goals first | assumption | omega
theorem feB_eq {x y : Fc} (h : feB x y = true) : fv x = fv y := by
  obtain ⟨h5, h6⟩ := (dec_iff _).1 h
  unfold fv fcells
  rw [h6]
  simp only [h5 0 (by decide), h5 1 (by decide), h5 2 (by decide), h5 3 (by decide), h5 4 (by decide), h5 5 (by decide), h5 6 (by decide), h5 7 (by decide), h5 8 (by decide), h5 9 (by decide), h5 10 (by decide), h5 11 (by decide), h5 12 (by decide), h5 13 (by decide), h5 14 (by decide), h5 15 (by decide), h5 16 (by decide)]
end RW
theorem op_nef {ev : Operand → Value} {o : Oper} {x y : Operand} {w : World} {a b : RW.Fc} (ho : o.op = .binOp .neq 38 x y 38) (hx : ev x = RW.fv a) (hy : ev y = RW.fv b) :
    (execOp ev o).run Tryz.prog w = .ok (.value (.bool (!RW.feB a b))) w := by
  have h := fun w => neq_factF a.1 b.1 a.2 b.2 w
  have hx' : ev x = .agg (RW.fcells a.1 a.2) := hx
  have hy' : ev y = .agg (RW.fcells b.1 b.2) := hy
  obtain ⟨cs, hcs⟩ : ∃ cs, cs = RW.fcells a.1 a.2 := ⟨_, rfl⟩
  obtain ⟨ds, hds⟩ : ∃ ds, ds = RW.fcells b.1 b.2 := ⟨_, rfl⟩
  have hq : (!RW.dec ((∀ i, i < 17 → a.1 i = b.1 i) ∧ a.2 = b.2)) = (!RW.feB a b) := rfl
  rw [← hcs, ← hds, hq] at h
  rw [← hcs] at hx'
  rw [← hds] at hy'
  clear hcs hds hx hy hq
  unfold execOp
  rw [ho]
  simp only [hx', hy', Sem.run_bind, h, Sem.run_pure]
  clear h
  go_simp
set_option maxRecDepth 100000 in
set_option maxHeartbeats 4000000 in
theorem sf_any (v v2 : Value) (l m : List RW.Fc) (w : World) (hl : FactsV w v l) (hm : FactsV w v2 m) (hll : l.length ≤ 9223372036854775807) (hmm : m.length ≤ 9223372036854775807) :
    Calls Tryz.prog 29 #[v, v2] w fun e w' => (∃ b, e = .returned (.bool b) ∧ (l.map RW.fv = m.map RW.fv → b = true)) ∧ Below w.heap.size w w' := by
  have hlA := hide hl
  have hmA := hide hm
  obtain ⟨la, lc, rfl, _, _⟩ := id hl
  obtain ⟨ma, mc, rfl, _, _⟩ := id hm
  obtain ⟨n, hn⟩ : ∃ n, n = l.length := ⟨_, rfl⟩
  obtain ⟨q, hq⟩ : ∃ n, n = m.length := ⟨_, rfl⟩
  have hnH := hide hn
  have hqH := hide hq
  rw [← hn] at hlA hll ⊢
  rw [← hq] at hmA hmm ⊢
  clear hl hm hn hq
  by_cases hnq : n = q
  · subst hnq
    go_enter Tryz.func29, Tryz.ntmps29
    go_wp2
    go_loopw [5] (fun i wr => ∃ (j : Nat), i = .int .i64 j ∧ j ≤ n ∧ Hid (Below w.heap.size w wr)) (fun i _ => n - (intOf i).toNat)
    case atStart => exact ⟨0, rfl, Nat.zero_le _, Below.refl _ _⟩
    case round =>
      obtain ⟨j, rfl, hj, hQ⟩ := hrel
      obtain ⟨wo, hwo⟩ : ∃ wo, wo = wr := ⟨_, rfl⟩
      subst hwo
      by_cases hjn : j < n
      · obtain ⟨r, hr⟩ : ∃ r, l[j]? = some r := ⟨_, List.getElem?_eq_getElem (by rw [← hnH.out]; exact hjn)⟩
        obtain ⟨r2, hr2⟩ : ∃ r, m[j]? = some r := ⟨_, List.getElem?_eq_getElem (by rw [← hqH.out]; exact hjn)⟩
        obtain ⟨g0, o0, lc', e', hcell⟩ := factR_cell (by have h := hlA.out; rw [hnH.out] at h; exact h) hr
        cases e'
        obtain ⟨g1, o1, mc', e', hcell2⟩ := factR_cell (by have h := hmA.out; rw [hqH.out] at h; exact h) hr2
        cases e'
        have hcellH := hide hcell
        have hcell2H := hide hcell2
        have hne := hide (show RW.feB r r2 = false → l.map RW.fv = m.map RW.fv → false = true from fun h e => by
          have e2 := congrArg (fun k => k[j]?) e
          simp only [List.getElem?_map, hr, hr2, Option.map_some, Option.some.injEq] at e2
          rw [RW.feB_of e2] at h
          cases h)
        clear hr hr2 hcell hcell2
        go_upto_region 6 with fail
        refine wp_region_k (fun _ W => Below w.heap.size w W) (fun _ => True) [] (.op 0 (.op 1 (.op 2 (.op 3 (.op 4 (.op 5 (.op 6 (.op 7 (.op 8 .nil))))))))) (by kernel_rfl) (by kernel_rfl) (by rfl) (by kernel_rfl) hQ.out.drew trivial ?_
        refine k_val (.slice (some ⟨g0, o0, none⟩) n lc) (by apply opN; repeat' (first | apply OpAt.z | apply OpAt.s)) (by rfl) (by rfl) (fun _ W hS => op_mv rfl rfl) ?_
        simp only [Act.put, List.setIfInBounds_toArray, List.set_cons_zero, List.set_cons_succ]
        refine k_val (.int .i64 (j : Int)) (by apply opN; repeat' (first | apply OpAt.z | apply OpAt.s)) (by rfl) (by rfl) (fun _ W hS => op_mv rfl rfl) ?_
        simp only [Act.put, List.setIfInBounds_toArray, List.set_cons_zero, List.set_cons_succ]
        refine k_val (.pointer (some ⟨g0, o0 + j * 18, none⟩)) (by apply opN; repeat' (first | apply OpAt.z | apply OpAt.s)) (by rfl) (by rfl) (fun _ W hS => op_ix rfl rfl rfl (ix_fcF hjn W)) ?_
        simp only [Act.put, List.setIfInBounds_toArray, List.set_cons_zero, List.set_cons_succ]
        refine k_val (RW.fv r) (by apply opN; repeat' (first | apply OpAt.z | apply OpAt.s)) (by rfl) (by rfl) (fun _ W hS => op_ld rfl rfl (hcellH.out W hS)) ?_
        simp only [Act.put, List.setIfInBounds_toArray, List.set_cons_zero, List.set_cons_succ]
        refine k_val (.slice (some ⟨g1, o1, none⟩) n mc) (by apply opN; repeat' (first | apply OpAt.z | apply OpAt.s)) (by rfl) (by rfl) (fun _ W hS => op_mv rfl rfl) ?_
        simp only [Act.put, List.setIfInBounds_toArray, List.set_cons_zero, List.set_cons_succ]
        refine k_val (.int .i64 (j : Int)) (by apply opN; repeat' (first | apply OpAt.z | apply OpAt.s)) (by rfl) (by rfl) (fun _ W hS => op_mv rfl rfl) ?_
        simp only [Act.put, List.setIfInBounds_toArray, List.set_cons_zero, List.set_cons_succ]
        refine k_val (.pointer (some ⟨g1, o1 + j * 18, none⟩)) (by apply opN; repeat' (first | apply OpAt.z | apply OpAt.s)) (by rfl) (by rfl) (fun _ W hS => op_ix rfl rfl rfl (ix_fcF hjn W)) ?_
        simp only [Act.put, List.setIfInBounds_toArray, List.set_cons_zero, List.set_cons_succ]
        refine k_val (RW.fv r2) (by apply opN; repeat' (first | apply OpAt.z | apply OpAt.s)) (by rfl) (by rfl) (fun _ W hS => op_ld rfl rfl (hcell2H.out W hS)) ?_
        simp only [Act.put, List.setIfInBounds_toArray, List.set_cons_zero, List.set_cons_succ]
        refine k_val (.bool (!RW.feB r r2)) (by apply opN; repeat' (first | apply OpAt.z | apply OpAt.s)) (by rfl) (by rfl) (fun _ W hS => op_nef rfl rfl rfl) ?_
        simp only [Act.put, List.setIfInBounds_toArray, List.set_cons_zero, List.set_cons_succ]
        refine k_nil ?_
        intro W hCW _
        cases hrr : RW.feB r r2 with
        | true =>
          have hBH := hide (hCW : Below w.heap.size w W)
          rw [show (!true) = false from rfl]
          clear hrr
          go_wp2
          go_roundw
          case rel => exact ⟨j + 1, by go_num, by omega, hBH.out⟩
          case measure => simp [intOf]; omega
        | false =>
          have hBH := hide (hCW : Below w.heap.size w W)
          have hrrH := hide hrr
          rw [show (!false) = true from rfl]
          clear hrr
          go_wp2
          go_ret
          exact ⟨⟨_, rfl, hne.out hrrH.out⟩, hBH.out⟩
      · obtain rfl : n = j := by omega
        go_wp2
        go_ret
        exact ⟨⟨_, rfl, fun _ => rfl⟩, hQ.out⟩
  · have hd := hide (show l.map RW.fv = m.map RW.fv → false = true from fun e => absurd (by have := congrArg List.length e; rw [List.length_map, List.length_map] at this; rw [hnH.out, hqH.out, this]) hnq)
    go_enter Tryz.func29, Tryz.ntmps29
    go_wp2
    go_ret
    exact ⟨⟨_, rfl, hd.out⟩, Below.refl _ _⟩
end Go.Proofs.YtnlphbfjeekooaaGreatDoor

/-
  Slices of facts, of strings, of whole numbers, and a fact, as arguments: what is read of them.
-/
namespace Go.Proofs.YtnlphbfjeekooaaGreatDoor
open Go.ChangeShapes Go.WideShapes Go.ChangeAt Go.RowKit
set_option maxRecDepth 100000 in
theorem laidOut : laidOutB Tryz.prog = true := by kernel_rfl
theorem cellsI : Tryz.prog.cellsOf 3 = 1 := by kernel_rfl
theorem fc_getF (f : Nat → Int) (s : ByteArray) (i : Nat) (h : i < 17) : (RW.fcells f s)[i]? = some (.int .i64 (f i)) := by
  have h' : i = 0 ∨ i = 1 ∨ i = 2 ∨ i = 3 ∨ i = 4 ∨ i = 5 ∨ i = 6 ∨ i = 7 ∨ i = 8 ∨ i = 9 ∨ i = 10 ∨ i = 11 ∨ i = 12 ∨ i = 13 ∨ i = 14 ∨ i = 15 ∨ i = 16 := by omega
  rcases h' with rfl | rfl | rfl | rfl | rfl | rfl | rfl | rfl | rfl | rfl | rfl | rfl | rfl | rfl | rfl | rfl | rfl <;> rfl
section
variable {H : Type} {enc : TypeId × Value → H} {W : World} {sp : Nat → Bool} {held : Bool}
set_option maxRecDepth 100000 in
theorem open_rows {α : Type} {k : Nat} {ec : α → List Value} {T E : TypeId} (good : α → Prop) (hu : Tryz.prog.underlying T = some (.slice E)) (hcl : Tryz.prog.cellsOf E = k) (h0 : 0 < k) (hlen : ∀ x, (ec x).length = k)
    (hel : ∀ (fuel : Nat) (cs : List Value) (x : DataW H × List MemPlace), cs.length = k → DataW.trod enc Tryz.prog W 0 sp held fuel E cs = some x → ∃ y : α, good y ∧ cs = ec y)
    {r : Reach} {b0 : Nat} {v : Value} {d : DataW H} {ps : List MemPlace} (hval : Value.okWide Tryz.prog W r b0 T v) (h : DataW.Trod enc Tryz.prog W 0 sp held T v d ps) :
    ∃ l : List α, RowV k ec W v l ∧ (∀ x ∈ l, good x) ∧ l.length ≤ 9223372036854775807 := by
  obtain ⟨a, len, cap, rfl⟩ := okWide_slice hu hval
  obtain ⟨fuel, hf⟩ := h
  rcases Deep.open_slice hu hf with ⟨hcs, _⟩ | ⟨a', len', cap', m, n, D, Pl, hcs, hb, hl, hm, hmm, _, hall⟩
  · simp [Value.cells] at hcs
    obtain ⟨rfl, rfl, rfl⟩ := hcs
    exact ⟨[], RowV.nil W, by simp, by simp⟩
  · simp [Value.cells] at hcs
    obtain ⟨rfl, rfl, rfl⟩ := hcs
    have hlm : len ≤ m := by rw [hmm]; split <;> omega
    have key : ∀ i, i < len → ∃ y : α, good y ∧ ∀ j u, (ec y)[j]? = some u → W.cell? (a'.add (i * k + j)) = some u := fun i hi => by
      obtain ⟨cs', h1, h2⟩ := hall i (by omega)
      rw [hcl] at h1
      obtain ⟨_, hln, hc⟩ := World.cells?_some h1
      obtain ⟨y, hy, rfl⟩ := hel _ _ _ hln h2
      refine ⟨y, hy, fun j u hj => ?_⟩
      have hjk : j < k := by rw [← hln]; exact (List.getElem?_eq_some_iff.1 hj).1
      rw [← Deep.add_add, ← hj]
      exact hc j hjk
    rcases Nat.eq_zero_or_pos len with h00 | h00
    · subst h00
      exact ⟨[], ⟨some a', cap, rfl, Nat.zero_le _, .inl rfl⟩, by simp, by simp⟩
    · obtain ⟨y0, _, _⟩ := key 0 h00
      have : Nonempty α := ⟨y0⟩
      obtain ⟨X, hX⟩ := Classical.axiomOfChoice (r := fun (i : Fin len) (y : α) => good y ∧ ∀ j u, (ec y)[j]? = some u → W.cell? (a'.add (i.1 * k + j)) = some u) (fun i => key i.1 i.2)
      have hll : (List.ofFn X).length = len := List.length_ofFn
      have hget : ∀ i x, (List.ofFn X)[i]? = some x → ∃ hi : i < len, x = X ⟨i, hi⟩ := fun i x hx => by
        have hi := (List.getElem?_eq_some_iff.1 hx).1
        rw [hll] at hi
        refine ⟨hi, ?_⟩
        rw [List.getElem?_eq_getElem (by rw [hll]; exact hi), List.getElem_ofFn] at hx
        exact (Option.some.inj hx).symm
      refine ⟨List.ofFn X, ⟨some a', cap, by rw [hll], by rw [hll]; exact hl, .inr ?_⟩, fun x hx => ?_, by rw [hll]; unfold maxLen at hm; omega⟩
      · obtain ⟨b, off, spot⟩ := a'
        have hc0 : ∃ u, (ec (X ⟨0, h00⟩))[0]? = some u := ⟨_, List.getElem?_eq_getElem (by rw [hlen]; exact h0)⟩
        obtain ⟨u0, hu0⟩ := hc0
        have hr0 := (hX ⟨0, h00⟩).2 0 u0 hu0
        have hs : spot = none := by simpa [Addr.add] using World.cell?_spot hr0
        subst hs
        have hb2 : b < W.heap.size := by
          have := World.block_lt_of_cell? W _ hr0
          simpa [Addr.add] using this
        refine ⟨b, off, rfl, hb2, fun i x hx j u hj => ?_⟩
        obtain ⟨hi, rfl⟩ := hget i x hx
        have := (hX ⟨i, hi⟩).2 j u hj
        rwa [show ((⟨b, off, none⟩ : Addr).add (i * k + j)) = ⟨b, off + i * k + j, none⟩ by unfold Addr.add; split <;> simp_all [Nat.add_assoc]] at this
      · obtain ⟨i, hi⟩ := List.getElem?_of_mem hx
        obtain ⟨hi', rfl⟩ := hget i x hi
        exact (hX ⟨i, hi'⟩).1
theorem one_at {α : Type} (l : List α) (i : Nat) (v : α) (h : (l.drop i).take 1 = [v]) : l[i]? = some v := by
  have := congrArg (·[0]?) h
  simpa [List.getElem?_take, List.getElem?_drop] using this
def RW.i64 (x : Int) : Prop := -9223372036854775808 ≤ x ∧ x ≤ 9223372036854775807
set_option maxRecDepth 100000 in
theorem fact_fields : ∃ fs : Array Field, Tryz.prog.underlying 38 = some (.struct fs) ∧ fs.size = 18 ∧ (∀ i, i < 17 → ∃ f : Field, fs[i]? = some f ∧ f.type = 3 ∧ f.offset = i) ∧ (∃ f : Field, fs[17]? = some f ∧ f.type = 9 ∧ f.offset = 17) := by
  refine ⟨_, Tryz.underlying38, rfl, fun i hi => ?_, ⟨_, rfl, rfl, rfl⟩⟩
  rcases i with _ | _ | _ | _ | _ | _ | _ | _ | _ | _ | _ | _ | _ | _ | _ | _ | _ | i
  all_goals first | exact ⟨_, rfl, rfl, rfl⟩ | omega
theorem cellsS : Tryz.prog.cellsOf 9 = 1 := by kernel_rfl
def RW.intIn (cs : List Value) (i : Nat) : Int := match cs[i]? with
  | some (.int _ n) => n
  | _ => 0
set_option maxRecDepth 100000 in
theorem open_factc {fuel : Nat} {cs : List Value} {x : DataW H × List MemPlace} (hl : cs.length = 18) (h : DataW.trod enc Tryz.prog W 0 sp held fuel 38 cs = some x) : ∃ y : RW.Fc, ((∀ i, i < 17 → RW.i64 (y.1 i)) ∧ y.2.size ≤ maxLen) ∧ cs = RW.fce y := by
  obtain ⟨fs, hu, hz, hint, fx, hfx, hft, hfo⟩ := fact_fields
  obtain ⟨xs, m, _, hx, _, hxl, hi⟩ := DataW.trod_struct hu h
  rw [hz] at hxl
  have hI : ∀ i, i < 17 → cs[i]? = some (.int .i64 (RW.intIn cs i)) ∧ RW.i64 (RW.intIn cs i) := fun i hi' => by
    obtain ⟨ff, hff, ht, ho⟩ := hint i hi'
    have h1 := hi i ff hff
    rw [ht, ho, cellsI, List.getElem?_eq_getElem (by omega)] at h1
    obtain ⟨n, hn, _, hw⟩ := DataW.trod_int Tryz.underlying3 h1
    have h2 := one_at _ _ _ hn
    have h3 : RW.intIn cs i = n := by unfold RW.intIn; rw [h2]
    rw [h3]
    exact ⟨h2, bounds_i64 hw⟩
  have hS : ∃ s : ByteArray, cs[17]? = some (.string s) ∧ s.size ≤ maxLen := by
    have h1 := hi 17 fx hfx
    rw [hft, hfo, cellsS, List.getElem?_eq_getElem (by omega)] at h1
    obtain ⟨s, hn, _, hm⟩ := DataW.trod_string Tryz.underlying9 h1
    exact ⟨s, one_at _ _ _ hn, hm⟩
  obtain ⟨s, hs, hm⟩ := hS
  refine ⟨(RW.intIn cs, s), ⟨fun i hi' => (hI i hi').2, hm⟩, ?_⟩
  apply List.ext_getElem?
  intro i
  rcases Nat.lt_or_ge i 17 with h17 | h17
  · rw [(hI i h17).1]
    rw [← fc_getF (RW.intIn cs) s i h17]
    unfold RW.fce
    rw [Array.getElem?_toList]
  · rcases Nat.eq_or_lt_of_le h17 with rfl | h18
    · rw [hs]; rfl
    · rw [List.getElem?_eq_none (by omega), List.getElem?_eq_none (by rw [fcl_len]; omega)]
set_option maxRecDepth 100000 in
theorem open_factsv {r : Reach} {b0 : Nat} {v : Value} {d : DataW H} {ps : List MemPlace} (hval : Value.okWide Tryz.prog W r b0 22 v) (h : DataW.Trod enc Tryz.prog W 0 sp held 22 v d ps) :
    ∃ l : List RW.Fc, FactsV W v l ∧ (∀ x ∈ l, (∀ i, i < 17 → RW.i64 (x.1 i)) ∧ x.2.size ≤ maxLen) ∧ l.length ≤ 9223372036854775807 :=
  open_rows (fun y : RW.Fc => (∀ i, i < 17 → RW.i64 (y.1 i)) ∧ y.2.size ≤ maxLen) Tryz.underlying22 (by kernel_rfl) (by decide) fcl_len (fun _ _ _ hl h => open_factc hl h) hval h
set_option maxRecDepth 100000 in
theorem open_fact1 {r : Reach} {b0 : Nat} {v : Value} {d : DataW H} {ps : List MemPlace} (hval : Value.okWide Tryz.prog W r b0 38 v) (h : DataW.Trod enc Tryz.prog W 0 sp held 38 v d ps) :
    ∃ y : RW.Fc, v = .agg (RW.fce y).toArray ∧ (∀ i, i < 17 → RW.i64 (y.1 i)) ∧ y.2.size ≤ maxLen := by
  obtain ⟨fs, hu, hz, _⟩ := fact_fields
  obtain ⟨cs, rfl, hsz⟩ := okWide_struct hu hval
  obtain ⟨fuel, hf⟩ := h
  have hcl : (Value.agg cs).cells.toList = cs.toList := rfl
  rw [hcl] at hf
  rw [show Tryz.prog.cellsOf 38 = 18 by kernel_rfl] at hsz
  obtain ⟨y, ⟨h1, h2⟩, h3⟩ := open_factc (by rw [Array.length_toList]; exact hsz) hf
  exact ⟨y, by rw [← h3], h1, h2⟩
set_option maxRecDepth 100000 in
theorem open_nums {r : Reach} {b0 : Nat} {v : Value} {d : DataW H} {ps : List MemPlace} (hval : Value.okWide Tryz.prog W r b0 43 v) (h : DataW.Trod enc Tryz.prog W 0 sp held 43 v d ps) :
    ∃ l : List Int, RowV 1 (fun z => [Value.int .i64 z]) W v l ∧ (∀ x ∈ l, RW.i64 x) ∧ l.length ≤ 9223372036854775807 :=
  open_rows (k := 1) (ec := fun z : Int => [Value.int .i64 z]) (fun x : Int => RW.i64 x) Tryz.underlying43 (by kernel_rfl) (by decide) (fun _ => rfl) (fun _ cs _ _ h => by
    obtain ⟨z, hz, _, hw⟩ := DataW.trod_int Tryz.underlying3 h
    exact ⟨z, bounds_i64 hw, hz⟩) hval h
set_option maxRecDepth 100000 in
theorem open_strsF {r : Reach} {b0 : Nat} {v : Value} {d : DataW H} {ps : List MemPlace} (hval : Value.okWide Tryz.prog W r b0 27 v) (h : DataW.Trod enc Tryz.prog W 0 sp held 27 v d ps) :
    ∃ l : List ByteArray, StrR W v l ∧ (∀ x ∈ l, x.size ≤ 9223372036854775807) ∧ l.length ≤ 9223372036854775807 :=
  open_rows (k := 1) (ec := fun s : ByteArray => [Value.string s]) (fun x : ByteArray => x.size ≤ 9223372036854775807) Tryz.underlying27 (by kernel_rfl) (by decide) (fun _ => rfl) (fun _ cs _ _ h => by
    obtain ⟨z, hz, _, hw⟩ := DataW.trod_string Tryz.underlying9 h
    exact ⟨z, by unfold maxLen at hw; omega, hz⟩) hval h
end
end Go.Proofs.YtnlphbfjeekooaaGreatDoor

/-
  Package royaltylaw06: cut: what it returns; only new memory is written.
-/
namespace Go.Proofs.YtnlphbfjeekooaaGreatDoor
open Go.RowKit RG
namespace RW
theorem fcells_setS (f : Nat → Int) (s u : ByteArray) : (fcells f s).setIfInBounds 17 (.string u) = fcells f u := rfl
theorem fcells_textS (f : Nat → Int) (s : ByteArray) : (fcells f s)[17]? = some (.string s) := rfl
theorem cutF_snoc {l : List Fc} {j : Nat} {x : Fc} (h : l[j]? = some x) : (l.take (j + 1)).map cutX = (l.take j).map cutX ++ [cutX x] := by
  rw [take_snocE h, List.map_append, List.map_singleton]
end RW
theorem setCell_sameF (w : World) (b : Nat) (cs : Array Value) (t : TypeId) (i : Nat) (v : Value) (h : w.heap[b]? = some (.cells cs t (0, 0))) : (w.setCell ⟨b, i, none⟩ v).heap[b]? = some (.cells (cs.setIfInBounds i v) t (0, 0)) := by
  unfold World.setCell
  simp only [Array.getElem?_modify, if_pos, h, Option.map_some]
  rfl
theorem wpList_bs_f {ops : Array Oper} {rest : List Oper} {o : Oper} {a : Act} {w : World} {Q : Exit → Act → World → Prop} (hgd : o.guard = none) (x : Operand) (ho : o.op = .buildSlice 22 1 #[(0, x)]) (y : RW.Fc) (cs : Array Value) (hcs : cs = RW.fcells y.1 y.2) (hx : a.eval x = .agg cs)
    (k : wpList Tryz.prog ops Q rest (a.put o.dst (.slice (some ⟨w.heap.size, 0, none⟩) 1 1)) (w.alloc (.cells cs 38))) : wpList Tryz.prog ops Q (o :: rest) a w := by
  subst hcs
  refine wpList_plain hgd fun K hK => ?_
  unfold Oper.wp
  rw [op_bs_f ho hx]
  exact hK _ _ k
attribute [local go_sem ↓] ldRow_fact
set_option maxRecDepth 100000 in
set_option maxHeartbeats 4000000 in
theorem cut_any (v : Value) (l : List RW.Fc) (hl : l.length ≤ 9223372036854775807) (hs : ∀ x ∈ l, x.2.size ≤ 9223372036854775807) (w : World) (hv : FactsV w v l) :
    Calls Tryz.prog 12 #[v] w fun e w' => ∃ u, e = .returned u ∧ OwnF w' w.heap.size u (RW.cutF l) ∧ Below w.heap.size w w' := by
  have hvA := hide hv
  obtain ⟨la, lc, rfl, _, _⟩ := id hv
  obtain ⟨n, hn⟩ : ∃ n, n = l.length := ⟨_, rfl⟩
  have hnH := hide hn
  rw [← hn] at hvA hl ⊢
  obtain ⟨B, hB⟩ : ∃ B, B = w.heap.size := ⟨_, rfl⟩
  have hBH := hide hB
  have hsH := hide hs
  rw [← hB]
  clear hv hn hB hs
  go_enter Tryz.func12, Tryz.ntmps12
  go_wp2
  go_loopw [3, 4, 5] (fun u i _ wr => ∃ (j : Nat), i = .int .i64 j ∧ j ≤ n ∧ j ≤ 25 ∧ Hid (OwnF wr B u ((l.take j).map RW.cutX) ∧ Below B w wr)) (fun _ i _ _ => n - (intOf i).toNat)
  case atStart => exact ⟨0, rfl, Nat.zero_le _, Nat.zero_le _, ⟨rfl, .inl ⟨rfl, rfl⟩⟩, by rw [hBH.out]; exact Below.refl _ _⟩
  case round =>
    obtain ⟨j, rfl, hj, hj25, hQ⟩ := hrel
    obtain ⟨wo, hwo⟩ : ∃ wo, wo = wr := ⟨_, rfl⟩
    subst hwo
    by_cases hjn : j < n
    · by_cases hj2 : j < 25
      · obtain ⟨x, hx⟩ : ∃ x, l[j]? = some x := ⟨_, List.getElem?_eq_getElem (by rw [← hnH.out]; exact hjn)⟩
        obtain ⟨g0, o0, lc', e', hcell⟩ := factR_cell (by have h := hvA.out; rw [hnH.out] at h; exact h) hx
        cases e'
        have hld := hcell wo (by rw [← hBH.out]; exact hQ.out.2)
        have hxH := hide hx
        have hsx := hsH.out x (List.mem_of_getElem? hx)
        obtain ⟨f, s⟩ := x
        rw [show RW.fv (f, s) = .agg (RW.fcells f s) from rfl] at hld
        have hi := fact_infoF f s
        have h1 := fcells_oneF f s
        obtain ⟨cs, hcs⟩ : ∃ cs, cs = RW.fcells f s := ⟨_, rfl⟩
        have hcz : cs.size = 18 := by rw [hcs]; rfl
        rw [← hcs] at hld hi h1
        have hcsH := hide hcs
        obtain ⟨m, hm⟩ : ∃ m, m = min s.size 2100 := ⟨_, rfl⟩
        have hcut := hide (show s.extract 0 m = RW.cutS s by rw [hm]; rfl)
        have hmin : min ((s.size : Nat) : Int) 2100 = (m : Int) := by omega
        have hb1 : (0 : Int) ≤ (m : Int) := by omega
        have hb2 : (m : Int) ≤ (s.size : Int) := by omega
        clear hcell hcs hx hm
        go_upto_region 6 with (refine wpList_store_newF rfl 38 (.tmp 5) (.tmp 19) rfl cs rfl rfl 38 _ hi (by rw [hcz]; rfl) h1 ?_)
        obtain ⟨fb, hfb⟩ : ∃ b, b = wo.heap.size := ⟨_, rfl⟩
        have hA := hide (alloc_bel (Below.refl wo.heap.size wo) (Nat.le_refl _) (.cells cs 38))
        refine gen_w (fun W => W.heap[fb]? = some (.cells cs 38 (0, 0)) ∧ Below fb wo W) ⟨by rw [hfb]; exact alloc_at1 _ _, by rw [hfb]; exact hA.out⟩ ?_
        rw [← hfb]
        have hfbH := hide hfb
        clear hfb hld hA
        rintro w1 ⟨hr1, hb1w⟩
        have hr1H := hide hr1
        have hb1H := hide hb1w
        have c17 : w1.cell? ⟨fb, 17, none⟩ = some (.string s) := by rw [cellAt hr1, hcsH.out]; rfl
        have f17 : w1.frozen? ⟨fb, 17, none⟩ = false := by simp [World.frozen?, hr1]
        clear hr1 hb1w
        go_upto_region 7 with fail
        rw [hcut.out]
        obtain ⟨ds, hds⟩ : ∃ ds, ds = RW.fcells f (RW.cutS s) := ⟨_, rfl⟩
        have hdsH := hide hds
        have hrB := hide (show Below B w wo from hQ.out.2)
        have hfB : B ≤ fb := by rw [hfbH.out]; exact Nat.le_trans (Nat.le_of_eq hBH.out) (hBH.out ▸ hrB.out : Below w.heap.size w wo).size
        refine gen_w (fun W => W.heap[fb]? = some (.cells ds 38 (0, 0)) ∧ Below fb wo W) ⟨by rw [setCell_sameF _ _ _ _ _ _ hr1H.out, hcsH.out, hds]; rfl, hb1H.out.setCell (Nat.le_refl _) _⟩ ?_
        clear c17 f17 hr1H hb1H hds hmin hb1 hb2
        rintro w2 ⟨hr2, hb2w⟩
        have hr2H := hide hr2
        have hb2H := hide hb2w
        have hld2 : (ldRow 38 (.pointer (some ⟨fb, 0, none⟩))).run Tryz.prog w2 = .ok (.agg ds) w2 := fact_ldF hr2 (by rw [hdsH.out]; rfl)
        have hO2 : OwnF w2 B _ _ := own_keep hQ.out.1 fun g hg => hb2w.block g (by rw [hfbH.out]; exact (own_blk hQ.out.1 hg).2.1)
        obtain ⟨v', W', hrun, hO3, hC3⟩ := app_oneF (f, RW.cutS s) hO2 (Nat.le_trans hfB (by rw [hfbH.out]; exact hb2w.size)) (by rw [List.length_map, List.length_take]; omega)
        rw [show RW.fcells (f, RW.cutS s).1 (f, RW.cutS s).2 = ds from hdsH.out.symm] at hrun
        rw [show (f, RW.cutS s) = RW.cutX (f, s) from rfl, ← RW.cutF_snoc hxH.out] at hO3
        have hO3H := hide hO3
        have hB3H := hide (show Below B w W' from hrB.out.trans ((hb2w.mono hfB).trans (hC3.belowJ (fun k e => (own_blk hO2 e).1) (Nat.le_trans hfB (by rw [hfbH.out]; exact hb2w.size)))))
        clear hr2 hb2w hO2 hO3 hC3
        go_wp2_with (first
          | (refine wpList_bs_f rfl (.tmp 29) rfl (f, RW.cutS s) ds hdsH.out rfl ?_)
          | (at_builtin; refine wpList_app_run rfl (.tmp 28) (.tmp 30) rfl rfl rfl hrun ?_))
        go_roundw
        case rel => exact ⟨j + 1, by go_num, by omega, by omega, hO3H.out, hB3H.out⟩
        case measure => simp [intOf]; omega
      · obtain rfl : j = 25 := by omega
        have hQ2 := hide (show OwnF wo B _ (RW.cutF l) ∧ Below B w wo from hQ.out)
        clear hQ
        go_wp2
        go_ret
        exact ⟨_, rfl, hQ2.out⟩
    · obtain rfl : n = j := by omega
      have hQ2 := hide (show OwnF wo B _ (RW.cutF l) ∧ Below B w wo from by
        have h := hQ.out
        have e : RW.cutF l = (l.take n).map RW.cutX := by unfold RW.cutF; rw [List.take_of_length_le (by rw [← hnH.out]; exact hj25), List.take_of_length_le (by rw [hnH.out]; exact Nat.le_refl _)]
        rw [e]
        exact h)
      clear hQ
      go_wp2
      go_ret
      exact ⟨_, rfl, hQ2.out⟩
end Go.Proofs.YtnlphbfjeekooaaGreatDoor

/-
  Package royaltylaw06: of, same: what they return; only new memory is written.
-/
namespace Go.Proofs.YtnlphbfjeekooaaGreatDoor
open Go.RowKit RG
theorem ofE_take {K : Nat → Int} {l : List RW.Fc} {j : Nat} {x : RW.Fc} (h : l[j]? = some x) : RW.ofE K [] (l.take (j + 1)) = (RW.addR K (RW.ofE K [] (l.take j)) x).2.2 := by rw [RW.take_snocE h, RW.ofE_snoc]
attribute [local go_sem ↓] ldRow_fact
set_option maxRecDepth 100000 in
set_option maxHeartbeats 4000000 in
theorem of_any (K : Nat → Int) (ks : Array Value) (hks : RW.WsOk ks K) (v : Value) (l : List RW.Fc) (hl : l.length ≤ 1000000) (w : World) (hv : FactsV w v l) (hK : KLaid w ks) :
    Calls Tryz.prog 13 #[v] w fun e w' => ∃ sb mb, e = .returned (.pointer (some ⟨sb, 0, none⟩)) ∧ SetAt w' sb mb (RW.ofE K [] l) ∧ w.heap.size ≤ sb ∧ w.heap.size ≤ mb ∧ Below w.heap.size w w' := by
  have hvA := hide hv
  obtain ⟨la, lc, rfl, _, _⟩ := id hv
  obtain ⟨n, hn⟩ : ∃ n, n = l.length := ⟨_, rfl⟩
  have hnH := hide hn
  rw [← hn] at hvA hl ⊢
  obtain ⟨B, hB⟩ : ∃ B, B = w.heap.size := ⟨_, rfl⟩
  have hBH := hide hB
  have hKH := hide (fun W (hW : Below B w W) => RW.klaid hK (hB ▸ hW : Below w.heap.size w W))
  have hksH := hide hks
  rw [← hB]
  clear hv hn hB hK hks
  have hNew := hide (snew_any w)
  rw [← hBH.out] at hNew
  go_enter Tryz.func13, Tryz.ntmps13
  go_wp2_with (go_at_call 19; refine hNew.out.mono ?_; rintro e w1 ⟨sb, mb, rfl, g1, g2, g3, g4⟩; have hN := hide (And.intro g1 (And.intro g2 (And.intro g3 g4))); clear g1 g2 g3 g4)
  go_loopw [4] (fun i wr => ∃ (j : Nat), i = .int .i64 j ∧ j ≤ n ∧ Hid (SetAt wr sb mb (RW.ofE K [] (l.take j)) ∧ Below B w wr)) (fun i _ => n - (intOf i).toNat)
  case atStart => exact ⟨0, rfl, Nat.zero_le _, hN.out.1, hN.out.2.1⟩
  case round =>
    obtain ⟨j, rfl, hj, hQ⟩ := hrel
    obtain ⟨wo, hwo⟩ : ∃ wo, wo = wr := ⟨_, rfl⟩
    subst hwo
    by_cases hjn : j < n
    · obtain ⟨x, hx⟩ : ∃ x, l[j]? = some x := ⟨_, List.getElem?_eq_getElem (by rw [← hnH.out]; exact hjn)⟩
      obtain ⟨g0, o0, lc', e', hcell⟩ := factR_cell (by have h := hvA.out; rw [hnH.out] at h; exact h) hx
      cases e'
      have hld := hcell wo (by rw [← hBH.out]; exact hQ.out.2)
      have hsn := hide (ofE_take (K := K) hx)
      have hAdd := hide (sadd_any K ks hksH.out sb mb _ x wo hQ.out.1 (hKH.out wo hQ.out.2))
      rw [← hsn.out] at hAdd
      obtain ⟨y, hy⟩ : ∃ y, y = RW.fv x := ⟨_, rfl⟩
      obtain ⟨p, q, hpq⟩ : ∃ p q, (RW.addR K (RW.ofE K [] (l.take j)) x).1 = p ∧ (RW.addR K (RW.ofE K [] (l.take j)) x).2.1 = q := ⟨_, _, rfl, rfl⟩
      rw [hpq.1, hpq.2, ← hy] at hAdd
      rw [← hy] at hld
      have hrB := hide (show Below B w wo from hQ.out.2)
      have hmbB := hide (show B ≤ mb from hN.out.2.2.2)
      clear hcell hx hpq hy hsn
      go_wp2_with (go_at_call 20; refine hAdd.out.mono ?_; rintro e w2 ⟨rfl, g1, g2⟩; have hA2 := hide (And.intro g1 (hrB.out.trans (g2.belowJ (B := B) (fun k e => by rw [e]; exact hmbB.out) (by rw [hBH.out]; exact (hBH.out ▸ hrB.out : Below w.heap.size w wo).size)))); clear g1 g2)
      go_roundw
      case rel => exact ⟨j + 1, by go_num, by omega, hA2.out.1, hA2.out.2⟩
      case measure => simp [intOf]; omega
    · obtain rfl : n = j := by omega
      have hQ2 := hide (show SetAt wo sb mb (RW.ofE K [] l) ∧ Below B w wo from by
        have h := hQ.out
        rw [hnH.out, List.take_length] at h
        exact h)
      clear hQ
      go_wp2
      go_ret
      exact ⟨sb, mb, rfl, hQ2.out.1, hN.out.2.2.1, hN.out.2.2.2, hQ2.out.2⟩
/-- what same says of two sets: it returns true if they hold the same -/
theorem facts_same {C D : RW.Ents} {ks js : List RW.Fc} (h1 : C.map (·.2) = ks.map RW.fv) (h2 : D.map (·.2) = js.map RW.fv) (h : C = D) : ks.map RW.fv = js.map RW.fv := by rw [← h1, ← h2, h]
set_option maxRecDepth 100000 in
set_option maxHeartbeats 4000000 in
theorem same_any (K : Nat → Int) (ks : Array Value) (hks : RW.WsOk ks K) (sa ma sb mb : Nat) (C D : RW.Ents) (w : World) (hS : SetAt w sa ma C) (hT : SetAt w sb mb D) (hC : C.length ≤ 1000000) (hD : D.length ≤ 1000000) (hsC : ∀ x ∈ C, x.1.size ≤ 1000000) (hsD : ∀ x ∈ D, x.1.size ≤ 1000000) (hK : KLaid w ks) :
    Calls Tryz.prog 39 #[.pointer (some ⟨sa, 0, none⟩), .pointer (some ⟨sb, 0, none⟩)] w fun e w' => (∃ b, e = .returned (.bool b) ∧ (C = D → b = true)) ∧ Below w.heap.size w w' := by
  obtain ⟨kc, hkc⟩ := RW.facts_of hS.fvs
  obtain ⟨kd, hkd⟩ := RW.facts_of hT.fvs
  have hkcl := hide (show kc.length = C.length by have := congrArg List.length hkc; simpa using this.symm)
  have hkdl := hide (show kd.length = D.length by have := congrArg List.length hkd; simpa using this.symm)
  obtain ⟨B, hB⟩ : ∃ B, B = w.heap.size := ⟨_, rfl⟩
  have hBH := hide hB
  have trH := hide (fun (W W' : World) (h1 : Below B w W) (h2 : Below W.heap.size W W') => (h1.trans (h2.mono (by rw [hBH.out]; exact (hBH.out ▸ h1 : Below w.heap.size w W).size)) : Below B w W'))
  have hIa := hide (fun W (h : Below B w W) => sids_any sa ma C hC W (hS.next (hB ▸ h)))
  have hIb := hide (fun W (h : Below B w W) => sids_any sb mb D hD W (hT.next (hB ▸ h)))
  have hFa := hide (fun W (h : Below B w W) => sfacts_any sa ma C kc hkc hC W (hS.next (hB ▸ h)))
  have hFb := hide (fun W (h : Below B w W) => sfacts_any sb mb D kd hkd hD W (hT.next (hB ▸ h)))
  have hRa := hide (fun W (h : Below B w W) => sroot_any K ks hks sa ma C hC hsC W (hS.next (hB ▸ h)) (RW.klaid hK (hB ▸ h)))
  have hRb := hide (fun W (h : Below B w W) => sroot_any K ks hks sb mb D hD hsD W (hT.next (hB ▸ h)) (RW.klaid hK (hB ▸ h)))
  have hLa := hide (fun W (h : Below B w W) => slen_any sa ma C W (hS.next (hB ▸ h)))
  have hLb := hide (fun W (h : Below B w W) => slen_any sb mb D W (hT.next (hB ▸ h)))
  have hfs := hide (fun h : C = D => facts_same hkc hkd h)
  have hSF := hide (fun W u u2 (h1 : FactsV W u kc) (h2 : FactsV W u2 kd) => sf_any u u2 kc kd W h1 h2 (by rw [hkcl.out]; omega) (by rw [hkdl.out]; omega))
  have hSS := hide (fun W u u2 (h1 : StrR W u (C.map (·.1))) (h2 : StrR W u2 (D.map (·.1))) => ss_any u u2 (C.map (·.1)) (D.map (·.1)) W h1 h2 (by rw [List.length_map]; omega) (by rw [List.length_map]; omega))
  have hB0 := hide (show Below B w w by rw [hB]; exact Below.refl _ _)
  rw [← hB]
  clear hB hK hks hS hT hsC hsD hkc hkd
  have tokI : True := trivial
  have tokF : True := trivial
  have tokR : True := trivial
  have tokL : True := trivial
  by_cases hid : C.map (·.1) = D.map (·.1)
  · have hlen : D.length = C.length := by have := congrArg List.length hid; simpa using this.symm
    rw [← hid] at hRb hSS
    rw [hlen] at hLb
    obtain ⟨R, hR⟩ : ∃ R, R = RW.rootB K (C.map (·.1)) := ⟨_, rfl⟩
    rw [← hR] at hRa hRb
    rw [decide_eq_true (rfl : C.map (·.1) = C.map (·.1))] at hSS
    have hidH := hide hid
    obtain ⟨nn, hnn⟩ : ∃ n, n = C.length := ⟨_, rfl⟩
    rw [← hnn] at hLa hLb
    clear hR hid hlen hnn
    go_enter Tryz.func39, Tryz.ntmps39
    go_wp2_with (first
      | (go_at_call 14; have _t := tokI; refine (hIa.out _ hB0.out).mono ?_; rintro e w1 ⟨u1, rfl, g1, g2⟩; have h1 := hide (strs_own g1); have hB1 := hide (trH.out _ _ hB0.out g2); clear g1 g2 tokI _t)
      | (go_at_call 14; refine (hIb.out _ hB1.out).mono ?_; rintro e w2 ⟨u2, rfl, g1, g2⟩; have h2 := hide (And.intro (h1.out.next g2) (strs_own g1)); have hB2 := hide (trH.out _ _ hB1.out g2); rw [← hidH.out] at h2; clear g1 g2)
      | (go_at_call 15; refine (hSS.out _ _ _ h2.out.1 h2.out.2).mono ?_; rintro e w3 ⟨rfl, g2⟩; have hB3 := hide (trH.out _ _ hB2.out g2); clear g2)
      | (go_at_call 30; have _t := tokF; refine (hFa.out _ hB3.out).mono ?_; rintro e w4 ⟨u4, rfl, g1, g2⟩; have h4 := hide g1.facts; have hB4 := hide (trH.out _ _ hB3.out g2); clear g1 g2 tokF _t)
      | (go_at_call 30; refine (hFb.out _ hB4.out).mono ?_; rintro e w5 ⟨u5, rfl, g1, g2⟩; have h5 := hide (And.intro (h4.out.next g2) g1.facts); have hB5 := hide (trH.out _ _ hB4.out g2); clear g1 g2)
      | (go_at_call 29; refine (hSF.out _ _ _ h5.out.1 h5.out.2).mono ?_; rintro e w6 ⟨⟨b, rfl, hb⟩, g2⟩; have hB6 := hide (trH.out _ _ hB5.out g2); have hbH := hide (fun h => hb (hfs.out h)); clear g2 hb; cases b)
      | (go_at_call 16; have _t := tokR; refine (hRa.out _ hB6.out).mono ?_; rintro e w7 ⟨rfl, g2⟩; have hB7 := hide (trH.out _ _ hB6.out g2); clear g2 tokR _t)
      | (go_at_call 16; refine (hRb.out _ hB7.out).mono ?_; rintro e w8 ⟨rfl, g2⟩; have hB8 := hide (trH.out _ _ hB7.out g2); clear g2)
      | (go_at_call 23; have _t := tokL; refine (hLa.out _ hB8.out).mono ?_; rintro e w9 ⟨rfl, rfl⟩; clear tokL _t)
      | (go_at_call 23; refine (hLb.out _ hB8.out).mono ?_; rintro e w10 ⟨rfl, rfl⟩))
    · go_ret
      exact ⟨⟨_, rfl, hbH.out⟩, hB6.out⟩
    · go_ret
      exact ⟨⟨_, rfl, fun _ => rfl⟩, hB8.out⟩
  · have hne := hide (show C = D → false = true from fun h => absurd (by rw [h]) hid)
    rw [decide_eq_false hid] at hSS
    clear hid
    go_enter Tryz.func39, Tryz.ntmps39
    go_wp2_with (first
      | (go_at_call 14; have _t := tokI; refine (hIa.out _ hB0.out).mono ?_; rintro e w1 ⟨u1, rfl, g1, g2⟩; have h1 := hide (strs_own g1); have hB1 := hide (trH.out _ _ hB0.out g2); clear g1 g2 tokI _t)
      | (go_at_call 14; refine (hIb.out _ hB1.out).mono ?_; rintro e w2 ⟨u2, rfl, g1, g2⟩; have h2 := hide (And.intro (h1.out.next g2) (strs_own g1)); have hB2 := hide (trH.out _ _ hB1.out g2); clear g1 g2)
      | (go_at_call 15; refine (hSS.out _ _ _ h2.out.1 h2.out.2).mono ?_; rintro e w3 ⟨rfl, g2⟩; have hB3 := hide (trH.out _ _ hB2.out g2); clear g2))
    go_ret
    exact ⟨⟨_, rfl, hne.out⟩, hB3.out⟩
end Go.Proofs.YtnlphbfjeekooaaGreatDoor

/-
  Lists of strings that are appended whole; an own empty list: no condition beyond each theorem's own premises.
-/
namespace Go.Proofs.YtnlphbfjeekooaaGreatDoor
open Go.RowKit RG
theorem cells_strF (l : List ByteArray) : rowCells (fun s => [Value.string s]) l = l.map Value.string := by
  unfold rowCells
  induction l with
  | nil => rfl
  | cons x l ih => simp [List.flatMap_cons, ih]
theorem strs_new0F {W : World} {N : Nat} (h : N ≤ W.heap.size) : StrsOwn (W.alloc (.cells #[] 9)) N (.slice (some ⟨W.heap.size, 0, none⟩) 0 0) [] :=
  ⟨rfl, .inr ⟨W.heap.size, 0, #[], rfl, h, alloc_at1 _ _, Nat.le_refl _, Nat.zero_le _, rfl, rfl⟩⟩
theorem app_slF {W : World} {B : Nat} {v y : Value} {l m : List ByteArray} (hown : StrsOwn W B v l) (hB : B ≤ W.heap.size) (hy : StrR W y m) (hlen : l.length + m.length ≤ 1000000) :
    ∃ v' W', (Builtin.append_ #[27, 27] 27 #[v, y]).run Tryz.prog W = .ok v' W' ∧ StrsOwn W' B v' (l ++ m) ∧ ChgS (fun j => v.ownBlock = some j) W W' := by
  have h1 : W.ownsRow B 9 1 v l.length (rowCells (fun s => [Value.string s]) l) := by rw [cells_strF]; exact hown
  obtain ⟨v', W', hr, ho, _, hg⟩ := run_app_rows (P := Tryz.prog) (enc := fun s => [Value.string s]) 27 Tryz.underlying27 str_info (by rfl) (by decide) (fun _ => rfl) (fun x u hu => by rw [List.mem_singleton.1 hu]; rfl) h1 hB hy (by unfold maxLen; omega) (by omega)
  rw [cells_strF] at ho
  exact ⟨v', W', hr, ho, ⟨hg.os, hg.tape, hg.output, hg.size, fun k hk hn => hg.block k hk fun e => hn e.symm⟩⟩
theorem chg_bel {W W' : World} {B : Nat} {T : TypeId} {k n : Nat} {v : Value} {xs : List Value} (h : W.ownsRow B T k v n xs) (hB : B ≤ W.heap.size) (hc : ChgS (fun j => v.ownBlock = some j) W W') : Below B W W' := hc.belowJ (fun _ e => (own_blk h e).1) hB
theorem bel_cat {B : Nat} {w W W' : World} (h1 : Below B w W) (hB : B ≤ w.heap.size) (h2 : Below W.heap.size W W') : Below B w W' := h1.trans (h2.mono (Nat.le_trans hB h1.size))
namespace RW
theorem sub_snoc {s l : List ByteArray} {j : Nat} {x : ByteArray} (h : s.Sublist (l.take j)) (hx : l[j]? = some x) : (s ++ [x]).Sublist (l.take (j + 1)) := by
  rw [take_snocE hx]
  exact h.append (List.Sublist.refl _)
theorem sub_step {s l : List ByteArray} {j : Nat} {x : ByteArray} (h : s.Sublist (l.take j)) (hx : l[j]? = some x) : s.Sublist (l.take (j + 1)) := by
  rw [take_snocE hx]
  exact h.trans (List.sublist_append_left _ _)
/-- what is asked for: the strings that were chosen, and perhaps one more -/
structure Ask (s : List ByteArray) (ad : Bool) (more : ByteArray) (a : List ByteArray) : Prop where
  sub : ∀ x ∈ a, x ∈ s ∨ (ad = true ∧ x = more)
  all : ∀ x ∈ s, x ∈ a
  more : ad = true → more ∈ a
theorem Ask.snoc {s : List ByteArray} {ad : Bool} {more : ByteArray} {a : List ByteArray} (h : Ask s ad more a) {x : ByteArray} (hx : x ∈ s) : Ask s ad more (a ++ [x]) :=
  ⟨fun y hy => by
    rcases List.mem_append.1 hy with hy | hy
    · exact h.sub y hy
    · rw [List.mem_singleton.1 hy]; exact .inl hx, fun y hy => by simp [h.all y hy], fun e => by simp [h.more e]⟩
theorem Ask.start (s : List ByteArray) (more : ByteArray) : Ask s false more ([] ++ s) := ⟨fun _ h => .inl (by simpa using h), fun _ h => by simpa using h, fun h => by cases h⟩
theorem Ask.start2 (s : List ByteArray) (more : ByteArray) : Ask s true more (([] ++ s) ++ [more]) := ⟨fun x h => by
    simp only [List.nil_append, List.mem_append, List.mem_singleton] at h
    exact h.imp id fun e => ⟨rfl, e⟩, fun _ h => by simp [h], fun _ => by simp⟩
end RW
end Go.Proofs.YtnlphbfjeekooaaGreatDoor

/-
  Single operations, by their run equations: comparisons of strings, numbers, facts; lengths.
-/
namespace Go.Proofs.YtnlphbfjeekooaaGreatDoor
open Go.RowKit RG
theorem str_eqF (a b : ByteArray) : (a.toList == b.toList) = decide (a = b) := by
  rw [Bool.eq_iff_iff]
  simp only [beq_iff_eq, decide_eq_true_eq, ByteArray.toList_eq]
  exact ⟨fun h => RW.bytes_ext h, fun h => by rw [h]⟩
theorem leS (x y : List UInt8) : (Op.bytesLess x y || x == y) = !Op.bytesLess y x := by
  cases h : Op.bytesLess x y with
  | true => rw [RW.bl_asymm h]; rfl
  | false =>
    cases h2 : Op.bytesLess y x with
    | true =>
      have : x ≠ y := fun e => by rw [e, RW.bl_irrefl] at h2; cases h2
      simp [this]
    | false =>
      rw [RW.bl_total _ _ h h2]
      simp
section
variable {ev : Operand → Value} {o : Oper} {x y : Operand} {w : World}
theorem op_neE {m : Int} (ho : o.op = .binOp .neq 34 x y 34) (hx : ev x = .int .i64 m) (hy : ev y = .int .i64 m) : (execOp ev o).run Tryz.prog w = .ok (.value (.bool false)) w := by
  unfold execOp
  rw [ho]
  simp only [hx, hy]
  go_simp
theorem op_neI {m : Int} (ho : o.op = .binOp .neq 3 x y 3) (hx : ev x = .int .i64 m) (hy : ev y = .int .i64 m) : (execOp ev o).run Tryz.prog w = .ok (.value (.bool false)) w := by
  unfold execOp
  rw [ho]
  simp only [hx, hy]
  go_simp
theorem op_lenS {s : ByteArray} {n : Int} (ho : o.op = .call { callee := .builtin .len, args := #[x], argTypes := #[9] }) (hx : ev x = .string s) (hn : (s.size : Int) = n) : (execOp ev o).run Tryz.prog w = .ok (.value (.int .i64 n)) w := by
  unfold execOp
  simp only [ho, resolve, invoke, builtin, Sem.run_bind, Sem.run_pure, Result.andThen_ok, List.map_toArray, List.map_cons, List.map_nil, hx]
  rw [← hn]
  go_simp
theorem op_leS {a b : ByteArray} {r : Bool} (ho : o.op = .binOp .leq 9 x y 9) (hx : ev x = .string a) (hy : ev y = .string b) (h : (!RW.blt b a) = r) : (execOp ev o).run Tryz.prog w = .ok (.value (.bool r)) w := by
  unfold execOp
  rw [ho]
  simp only [hx, hy]
  unfold RW.blt at h
  subst h
  rw [← ByteArray.toList_eq, ← ByteArray.toList_eq, ← leS]
  go_simp
theorem op_eqS {a b : ByteArray} {r : Bool} (ho : o.op = .binOp .eql 9 x y 9) (hx : ev x = .string a) (hy : ev y = .string b) (h : decide (a = b) = r) : (execOp ev o).run Tryz.prog w = .ok (.value (.bool r)) w := by
  rw [← str_eqF] at h
  unfold execOp
  rw [ho]
  simp only [hx, hy]
  subst h
  go_simp
theorem op_nesame {z : RW.Fc} {cs : Array Value} (hcs : cs = RW.fcells z.1 z.2) (ho : o.op = .binOp .neq 38 x y 38) (hx : ev x = .agg cs) (hy : ev y = .agg cs) :
    (execOp ev o).run Tryz.prog w = .ok (.value (.bool false)) w := by
  have h : RW.fv z = .agg cs := by rw [hcs]; rfl
  have h2 := op_nef (w := w) ho (hx.trans h.symm) (hy.trans h.symm)
  rw [RW.feB_of rfl] at h2
  exact h2
end
theorem ne_sameF {z : RW.Fc} {cs : Array Value} (hcs : cs = RW.fcells z.1 z.2) (W : World) : (binOp .neq 38 (.agg cs) (.agg cs)).run Tryz.prog W = .ok (.bool false) W := by
  have h := neq_factF z.1 z.1 z.2 z.2 W
  rw [RW.dec_true ⟨fun _ _ => rfl, rfl⟩, ← hcs] at h
  exact h
theorem set_strF {W : World} {B g cap : Nat} {l : List ByteArray} {s : ByteArray} (h : W.ownsRow B 9 1 (.slice (some ⟨g, 0, none⟩) l.length cap) l.length (l.map Value.string)) {i : Nat} (hi : i < l.length) :
    (W.setCell ⟨g, i, none⟩ (.string s)).ownsRow B 9 1 (.slice (some ⟨g, 0, none⟩) l.length cap) l.length ((l.set i s).map Value.string) := by
  rw [← cells_strF] at h
  have := own_cell (enc := fun s : ByteArray => [Value.string s]) (fun _ => rfl) (by decide) h i 0 l[i] s (.string s) (List.getElem?_eq_getElem hi) (by decide) rfl
  rw [Nat.mul_one, Nat.add_zero, cells_strF] at this
  exact this
end Go.Proofs.YtnlphbfjeekooaaGreatDoor

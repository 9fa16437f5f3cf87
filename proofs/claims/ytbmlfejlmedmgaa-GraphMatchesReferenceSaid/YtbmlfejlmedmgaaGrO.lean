/-
  Single operations, whatever the region: what each yields and how it changes the memory; an int appended to a row of the call's own.
-/
import Derived.Maps.AppendAt
import Derived.Test.YtbmlfejlmedmgaaG1
namespace Go.Proofs.Ytbmlfejlmedmgaa
open Go.RowKit RG
section
variable {ev : Operand → Value} {o : Oper} {x y z : Operand} {w : World}
theorem op_mv {v : Value} (ho : o.op = .move x) (hx : ev x = v) : (execOp ev o).run Try.prog w = .ok (.value v) w := by
  unfold execOp
  rw [ho]
  simp only [hx]
  go_simp
theorem op_asg {v : Value} (ho : o.op = .assign x) (hx : ev x = v) : (execOp ev o).run Try.prog w = .ok (.value v) w := by
  unfold execOp
  rw [ho]
  simp only [hx]
  go_simp
theorem op_nc {p : Addr} (ho : o.op = .nilCheck x) (hx : ev x = .pointer (some p)) : (execOp ev o).run Try.prog w = .ok (.value (.pointer (some p))) w := by
  unfold execOp
  rw [ho]
  simp only [hx]
  go_simp
theorem op_load_int {b i : Nat} {n : Int} (ho : o.op = .load 3 x) (hx : ev x = .pointer (some ⟨b, i, none⟩)) (hc : w.cell? ⟨b, i, none⟩ = some (.int .i64 n)) : (execOp ev o).run Try.prog w = .ok (.value (.int .i64 n)) w := by
  unfold execOp
  rw [ho]
  simp only [hx]
  go_simp
theorem op_load_sl {b i : Nat} {p : Option Addr} {n c : Nat} (ho : o.op = .load 27 x) (hx : ev x = .pointer (some ⟨b, i, none⟩)) (hc : w.cell? ⟨b, i, none⟩ = some (.slice p n c)) : (execOp ev o).run Try.prog w = .ok (.value (.slice p n c)) w := by
  unfold execOp
  rw [ho]
  simp only [hx]
  go_simp
theorem op_load_ll {b i : Nat} {p : Option Addr} {n c : Nat} (ho : o.op = .load 33 x) (hx : ev x = .pointer (some ⟨b, i, none⟩)) (hc : w.cell? ⟨b, i, none⟩ = some (.slice p n c)) : (execOp ev o).run Try.prog w = .ok (.value (.slice p n c)) w := by
  unfold execOp
  rw [ho]
  simp only [hx]
  go_simp
theorem op_load_nd {b i : Nat} {p : Bool} {n : Int} (ho : o.op = .load 51 x) (hx : ev x = .pointer (some ⟨b, i, none⟩)) (hc : w.cell? ⟨b, i, none⟩ = some (.bool p)) (hc2 : w.cell? ⟨b, i + 1, none⟩ = some (.int .i64 n)) : (execOp ev o).run Try.prog w = .ok (.value (.agg #[.bool p, .int .i64 n])) w := by
  unfold execOp
  rw [ho]
  simp only [hx]
  go_simp
theorem op_load_fo {b i : Nat} {v : Option Nat} (ho : o.op = .load 47 x) (hx : ev x = .pointer (some ⟨b, i, none⟩)) (hc : w.cell? ⟨b, i, none⟩ = some (.map v)) : (execOp ev o).run Try.prog w = .ok (.value (.agg #[.map v])) w := by
  unfold execOp
  rw [ho]
  simp only [hx]
  go_simp
theorem op_load_ed {b i : Nat} {m n : Int} (ho : o.op = .load 38 x) (hx : ev x = .pointer (some ⟨b, i, none⟩)) (hc : w.cell? ⟨b, i, none⟩ = some (.int .i64 m)) (hc2 : w.cell? ⟨b, i + 1, none⟩ = some (.int .i64 n)) : (execOp ev o).run Try.prog w = .ok (.value (.agg #[.int .i64 m, .int .i64 n])) w := by
  unfold execOp
  rw [ho]
  simp only [hx]
  go_simp
theorem op_store_nd {b i : Nat} {p : Bool} {n : Int} {u v : Value} (ho : o.op = .store 51 x y) (hx : ev x = .pointer (some ⟨b, i, none⟩)) (hy : ev y = .agg #[.bool p, .int .i64 n]) (hc : w.cell? ⟨b, i, none⟩ = some u) (hc2 : w.cell? ⟨b, i + 1, none⟩ = some v) (hf : w.frozen? ⟨b, i, none⟩ = false) (hf2 : w.frozen? ⟨b, i + 1, none⟩ = false) :
    (execOp ev o).run Try.prog w = .ok .skip ((w.setCell ⟨b, i, none⟩ (.bool p)).setCell ⟨b, i + 1, none⟩ (.int .i64 n)) := by
  unfold execOp
  rw [ho]
  simp only [hx, hy]
  go_simp
theorem op_store_sl {b i : Nat} {p : Option Addr} {n c : Nat} {u : Value} (ho : o.op = .store 27 x y) (hx : ev x = .pointer (some ⟨b, i, none⟩)) (hy : ev y = .slice p n c) (hc : w.cell? ⟨b, i, none⟩ = some u) (hf : w.frozen? ⟨b, i, none⟩ = false) :
    (execOp ev o).run Try.prog w = .ok .skip (w.setCell ⟨b, i, none⟩ (.slice p n c)) := by
  unfold execOp
  rw [ho]
  simp only [hx, hy]
  go_simp
theorem op_fa_cl {b i : Nat} (hi : i < 3) (ho : o.op = .fieldAddr 49 x i) (hx : ev x = .pointer (some ⟨b, 0, none⟩)) : (execOp ev o).run Try.prog w = .ok (.value (.pointer (some ⟨b, i, none⟩))) w := by
  rcases i with _ | _ | _ | i
  all_goals first | omega | skip
  all_goals
    unfold execOp
    rw [ho]
    simp only [hx]
    go_simp
theorem op_fa_e0 {b i : Nat} (ho : o.op = .fieldAddr 38 x 0) (hx : ev x = .pointer (some ⟨b, i, none⟩)) : (execOp ev o).run Try.prog w = .ok (.value (.pointer (some ⟨b, i, none⟩))) w := by
  unfold execOp
  rw [ho]
  simp only [hx]
  go_simp
theorem op_fa_e1 {b i : Nat} (ho : o.op = .fieldAddr 38 x 1) (hx : ev x = .pointer (some ⟨b, i, none⟩)) : (execOp ev o).run Try.prog w = .ok (.value (.pointer (some ⟨b, i + 1, none⟩))) w := by
  unfold execOp
  rw [ho]
  simp only [hx]
  go_simp
theorem op_build_na {n : Int} (ho : o.op = .build 51 #[(1, x)]) (hx : ev x = .int .i64 n) : (execOp ev o).run Try.prog w = .ok (.value (.agg #[.bool false, .int .i64 n])) w := by
  unfold execOp
  rw [ho]
  go_simp
theorem op_build_nd {n : Int} (ho : o.op = .build 51 #[(0, x), (1, y)]) (hx : ev x = .bool true) (hy : ev y = .int .i64 n) : (execOp ev o).run Try.prog w = .ok (.value (.agg #[.bool true, .int .i64 n])) w := by
  unfold execOp
  rw [ho]
  go_simp
theorem op_bs_i {q : Int} (ho : o.op = .buildSlice 27 1 #[(0, x)]) (hx : ev x = .int .i64 q) : (execOp ev o).run Try.prog w = .ok (.value (.slice (some ⟨w.heap.size, 0, none⟩) 1 1)) (w.alloc (.cells #[.int .i64 q] 3)) := by
  unfold execOp
  rw [ho]
  go_simp
theorem op_eqn {a b : RW.Nd} (ho : o.op = .binOp .eql 51 x y 51) (hx : ev x = RW.ndv a) (hy : ev y = RW.ndv b) : (execOp ev o).run Try.prog w = .ok (.value (.bool (decide (a = b)))) w := by
  unfold execOp
  rw [ho]
  simp only [hx, hy]
  unfold RW.ndv
  go_simp
  by_cases g0 : a.1 = b.1
  · by_cases g1 : a.2 = b.2
    · rw [if_pos g0, if_pos g1, decide_eq_true (Prod.ext g0 g1)]
    · rw [if_pos g0, if_neg g1, decide_eq_false (fun e => g1 (by rw [e]))]
  · rw [if_neg g0, decide_eq_false (fun e => g0 (by rw [e]))]
theorem xup_val {D : Value → World → Prop} {r : Result Next} {v : Value} {w' : World} (h : r = .ok (.value v) w') (hD : D v w') : XUp Try.prog D r := by
  rw [h]
  exact hD
theorem xup_skip {D : Value → World → Prop} {r : Result Next} {w' : World} (h : r = .ok .skip w') (hD : D undef w') : XUp Try.prog D r := by
  rw [h]
  exact hD
theorem op_x1 {D : Value → World → Prop} {k : Nat} {ts : Array TypeId} {n : Value} (ho : o.op = .call ⟨.value (.func k), #[x], ts⟩) (hf : ev (.func k) = .func (.func k) #[] #[]) (hx : ev x = n) (hk : ∀ args w, (callFunc k args).run Try.prog w = .ok (.enter k args) w)
    (h : Calls Try.prog k #[n] w fun e w'' => ∃ u, e = .returned u ∧ D u w'') : XUp Try.prog D ((execOp ev o).run Try.prog w) := by
  have h1 : (execOp ev o).run Try.prog w = .ok (.enter k #[n]) w := by
    unfold execOp
    rw [ho]
    go_simp
  rw [h1]
  exact h
theorem op_pk {p : Bool} {u v r : Value} (ho : o.op = .pick x y z) (hx : ev x = .bool p) (hy : ev y = u) (hz : ev z = v) (hq : (if p = true then u else v) = r) : (execOp ev o).run Try.prog w = .ok (.value r) w := by
  unfold execOp
  rw [ho]
  simp only [hx, hy, hz]
  rw [← hq]
  go_simp
theorem op_app {t : TypeId} {v s v' : Value} {w' : World} (ho : o.op = .call { callee := .builtin .append, args := #[x, y], argTypes := #[t, t] }) (hx : ev x = v) (hy : ev y = s) (hr : (Builtin.append_ #[t, t] o.type #[v, s]).run Try.prog w = .ok v' w') :
    (execOp ev o).run Try.prog w = .ok (.value v') w' := by
  unfold execOp
  simp only [ho, resolve, invoke, builtin, Sem.run_bind, Sem.run_pure, Result.andThen_ok, List.map_toArray, List.map_cons, List.map_nil, hx, hy, hr]
theorem op_x2 {D : Value → World → Prop} {k : Nat} {ts : Array TypeId} {n m : Value} (ho : o.op = .call ⟨.value (.func k), #[x, y], ts⟩) (hf : ev (.func k) = .func (.func k) #[] #[]) (hx : ev x = n) (hy : ev y = m) (hk : ∀ args w, (callFunc k args).run Try.prog w = .ok (.enter k args) w)
    (h : Calls Try.prog k #[n, m] w fun e w'' => ∃ u, e = .returned u ∧ D u w'') : XUp Try.prog D ((execOp ev o).run Try.prog w) := by
  have h1 : (execOp ev o).run Try.prog w = .ok (.enter k #[n, m]) w := by
    unfold execOp
    rw [ho]
    go_simp
  rw [h1]
  exact h
theorem op_x3 {D : Value → World → Prop} {k : Nat} {ts : Array TypeId} {a b c : Value} (ho : o.op = .call ⟨.value (.func k), #[x, y, z], ts⟩) (hf : ev (.func k) = .func (.func k) #[] #[]) (hx : ev x = a) (hy : ev y = b) (hz : ev z = c) (hk : ∀ args w, (callFunc k args).run Try.prog w = .ok (.enter k args) w)
    (h : Calls Try.prog k #[a, b, c] w fun e w'' => ∃ u, e = .returned u ∧ D u w'') : XUp Try.prog D ((execOp ev o).run Try.prog w) := by
  have h1 : (execOp ev o).run Try.prog w = .ok (.enter k #[a, b, c]) w := by
    unfold execOp
    rw [ho]
    go_simp
  rw [h1]
  exact h
end
theorem run_app_at {P : Program} {α : Type} {k : Nat} {enc : α → List Value} {t e : TypeId} {z : Value} {bytes : Nat} (ty : TypeId) (ht : P.underlying t = some (.slice e)) (hinfo : (P.info? e).map (fun i => (i.zero, i.size, i.bytes)) = some (some z, k, bytes)) (hzs : z.cells.size = k) (h0 : 0 < k)
    (hk : ∀ x, (enc x).length = k) (hone : ∀ x, ∀ u ∈ enc x, u.oneCell' = true) {W : World} {B : Nat} {v y : Value} {l m : List α} (hown : W.ownsRow B e k v l.length (rowCells enc l)) (hB : B ≤ W.heap.size) (hy : RowV k enc W y m)
    (hlen : l.length + m.length ≤ maxLen) (hby : (l.length + m.length) * bytes ≤ 140737488355328) :
    ∃ v' W', (Builtin.append_ #[t, t] ty #[v, y]).run P W = .ok v' W' ∧ W'.ownsRow B e k v' (l ++ m).length (rowCells enc (l ++ m)) ∧ Below B W W' ∧ W.grownBy W' v.ownBlock ∧ (v'.ownBlock = v.ownBlock ∨ v'.ownBlock = some W.heap.size) := by
  obtain ⟨i0, hi, hz0, hz1, hz2⟩ := info_parts hinfo
  obtain ⟨a, c, rfl, _, ha⟩ := hy
  cases a with
  | some ad =>
    have hnews : ∀ j u, (rowCells enc m)[j]? = some u → W.cell? (ad.add j) = some u := by
      rcases ha with rfl | ⟨b, o, hab, _, hc⟩
      · intro j u hj; simp [rowCells] at hj
      · cases hab
        exact rowV_cells hk h0 hc
    obtain ⟨v', w3, hr, h2, h3, _, h6⟩ := run_append_own_at (P := P) W B t ty e i0 z k bytes ht hi hz0 hz1 hz2 hzs h0 v l.length (rowCells enc l) hown ad m.length c (rowCells enc m) (rowCells_len hk m) hnews (rowCells_one hone m) hlen hby hB
    refine ⟨v', w3, hr, ?_, (Below.refl B W).grown h3 hB (fun k hk => (hown.lt k hk).1), h3, h6⟩
    rw [rowCells_append, List.length_append]
    exact h2
  | none =>
    obtain rfl : m = [] := by
      rcases ha with rfl | ⟨b, o, hab, _⟩
      · rfl
      · cases hab
    have hown2 := hown
    rcases hown.2 with ⟨rfl, h00⟩ | ⟨g, cap, cur, rfl, _, hg, hn, _⟩
    · obtain rfl := List.length_eq_zero_iff.1 h00
      refine ⟨.slice none 0 0, W, ?_, by simpa using hown2, Below.refl _ _, ⟨rfl, rfl, rfl, Nat.le_refl _, fun _ _ _ => rfl⟩, .inl rfl⟩
      have hs : Src P i0.size t (.slice none 0 c) 0 [] W := Src.ofNil W ht c
      simp [Builtin.append_, run_underlying ht, sizeOf, typeInfo, hi, hs.len, hs.cells]
    · have hr := run_append_room_src (P := P) W t t ty e i0 ht hi g 0 l.length cap (.slice none 0 c) 0 [] (by rw [hz1]; exact Src.ofNil W ht c) (by omega) (by simp) (by simp)
      exact ⟨_, _, hr, by simpa [World.setCells] using hown2, Below.refl _ _, ⟨rfl, rfl, rfl, Nat.le_refl _, fun _ _ _ => rfl⟩, .inl rfl⟩
theorem int_info : (Try.prog.info? 3).map (fun i => (i.zero, i.size, i.bytes)) = some (some (.int .i64 0), 1, 8) := by kernel_rfl
theorem neq2 (a b : RW.Nd) (W : World) : (binOp .neq 51 (RW.ndv a) (RW.ndv b)).run Try.prog W = .ok (.bool (!decide (a = b))) W := by
  have h := eq2 a b W
  unfold RW.ndv at h ⊢
  rw [run_neq_struct]
  show ((Op.equal 51 _ _).run Try.prog W).andThen _ = _
  rw [h]
  rfl
theorem eql2 (a b : RW.Nd) (W : World) : (binOp .eql 51 (RW.ndv a) (RW.ndv b)).run Try.prog W = .ok (.bool (decide (a = b))) W := by
  have h := eq2 a b W
  unfold RW.ndv at h ⊢
  rw [run_eql_struct]
  show ((Op.equal 51 _ _).run Try.prog W).andThen _ = _
  rw [h]
  rfl
/-- an int that lies alone in block g, appended -/
theorem IntsO.app1 {W : World} {B g : Nat} {v : Value} {l : List Int} (h : IntsO W B v l) (x : Int) (hl : l.length ≤ 1000000) (hB : B ≤ W.heap.size) (hg : W.heap[g]? = some (.cells #[.int .i64 x] 3 (0, 0))) :
    ∃ v' W', (Builtin.append_ #[27, 27] 27 #[v, .slice (some ⟨g, 0, none⟩) 1 1]).run Try.prog W = .ok v' W' ∧ IntsO W' B v' (l ++ [x]) ∧ ChgS (fun j => v.ownBlock = some j) W W' ∧ (v'.ownBlock = v.ownBlock ∨ v'.ownBlock = some W.heap.size) := by
  have hy : RowV 1 encI W (.slice (some ⟨g, 0, none⟩) [x].length 1) [x] := ⟨_, _, rfl, Nat.le_refl _, .inr ⟨g, 0, rfl, (Array.getElem?_eq_some_iff.1 hg).1, fun i y hy j u hj => by
    rcases i with _ | i
    · simp at hy
      subst hy
      rcases j with _ | j
      · simp at hj
        subst hj
        exact cellAt hg 0
      · simp at hj
    · simp at hy⟩⟩
  have hown : W.ownsRow B 3 1 v l.length (rowCells encI l) := by rw [intCells]; exact h
  obtain ⟨v', W', h1, h2, h3, h4, h5⟩ := run_app_at (P := Try.prog) 27 Try.underlying27 int_info (by rfl) (by decide) (fun _ => rfl) (by intro x u hu; simp at hu; rw [hu]; rfl) hown hB hy (by unfold maxLen; simp; omega) (by simp; omega)
  rw [intCells] at h2
  exact ⟨v', W', h1, h2, ⟨h4.os, h4.tape, h4.output, h4.size, fun k hk hn => h4.block k hk fun e => hn e.symm⟩, h5⟩
end Go.Proofs.Ytbmlfejlmedmgaa

/-
  A slice of structs appended to a row of the call's own, whatever the slice is (nil, empty, with elements): no condition beyond each theorem's own premises.
-/
import Derived.Deep.AppendSrc
import Derived.Test.YtllbphanfahkkaaDoorSb2
namespace Go.Proofs.YtllbphanfahkkaaDoor
open Go.RowKit
section
variable {α : Type} {k : Nat} {enc : α → List Value} {P : Program}
theorem rowCells_one (hone : ∀ x, ∀ u ∈ enc x, u.oneCell' = true) (l : List α) : ∀ u ∈ rowCells enc l, u.oneCell' = true := by
  intro u hu
  obtain ⟨x, _, hx⟩ := List.mem_flatMap.1 hu
  exact hone x u hx
theorem rowV_cells {W : World} {b o : Nat} {l : List α} (hk : ∀ x, (enc x).length = k) (h0 : 0 < k) (hc : ∀ i x, l[i]? = some x → W.rangeAt b (o + i * k) (enc x)) :
    ∀ j u, (rowCells enc l)[j]? = some u → W.cell? ((⟨b, o, none⟩ : Addr).add j) = some u := by
  intro j u hj
  rw [rowCells_at hk h0] at hj
  obtain ⟨x, hx, hxu⟩ := Option.bind_eq_some_iff.1 hj
  have h1 := hc _ _ hx _ _ hxu
  rw [Addr.add_mid]
  have := Nat.div_add_mod j k
  rw [Nat.mul_comm] at this
  rwa [Nat.add_assoc, this] at h1
/-- 'append(v, y...)' -/
theorem run_app_rows {t e : TypeId} {z : Value} {bytes : Nat} (ty : TypeId) (ht : P.underlying t = some (.slice e)) (hinfo : (P.info? e).map (fun i => (i.zero, i.size, i.bytes)) = some (some z, k, bytes)) (hzs : z.cells.size = k) (h0 : 0 < k)
    (hk : ∀ x, (enc x).length = k) (hone : ∀ x, ∀ u ∈ enc x, u.oneCell' = true) {W : World} {B : Nat} {v y : Value} {l m : List α} (hown : W.ownsRow B e k v l.length (rowCells enc l)) (hB : B ≤ W.heap.size) (hy : RowV k enc W y m)
    (hlen : l.length + m.length ≤ maxLen) (hby : (l.length + m.length) * bytes ≤ 140737488355328) :
    ∃ v' W', (Builtin.append_ #[t, t] ty #[v, y]).run P W = .ok v' W' ∧ W'.ownsRow B e k v' (l ++ m).length (rowCells enc (l ++ m)) ∧ Below B W W' ∧ W.grownBy W' v.ownBlock := by
  obtain ⟨i0, hi, hz0, hz1, hz2⟩ := info_parts hinfo
  obtain ⟨a, c, rfl, _, ha⟩ := hy
  cases a with
  | some ad =>
    have hnews : ∀ j u, (rowCells enc m)[j]? = some u → W.cell? (ad.add j) = some u := by
      rcases ha with rfl | ⟨b, o, hab, _, hc⟩
      · intro j u hj; simp [rowCells] at hj
      · cases hab
        exact rowV_cells hk h0 hc
    obtain ⟨v', w3, hr, h2, h3, _⟩ := run_append_own (P := P) W B t ty e i0 z k bytes ht hi hz0 hz1 hz2 hzs h0 v l.length (rowCells enc l) hown ad m.length c (rowCells enc m) (rowCells_len hk m) hnews (rowCells_one hone m) hlen hby hB
    refine ⟨v', w3, hr, ?_, (Below.refl B W).grown h3 hB (fun k hk => (hown.lt k hk).1), h3⟩
    rw [rowCells_append, List.length_append]
    exact h2
  | none =>
    obtain rfl : m = [] := by
      rcases ha with rfl | ⟨b, o, hab, _⟩
      · rfl
      · cases hab
    have hown2 := hown
    rcases hown.2 with ⟨rfl, h00⟩ | ⟨g, cap, cur, rfl, _, hg, hn, _⟩
    · obtain rfl := List.length_eq_zero_iff.1 h00
      refine ⟨.slice none 0 0, W, ?_, by simpa using hown2, Below.refl _ _, ⟨rfl, rfl, rfl, Nat.le_refl _, fun _ _ _ => rfl⟩⟩
      have hs : Src P i0.size t (.slice none 0 c) 0 [] W := Src.ofNil W ht c
      simp [Builtin.append_, run_underlying ht, sizeOf, typeInfo, hi, hs.len, hs.cells]
    · have hr := run_append_room_src (P := P) W t t ty e i0 ht hi g 0 l.length cap (.slice none 0 c) 0 [] (by rw [hz1]; exact Src.ofNil W ht c) (by omega) (by simp) (by simp)
      exact ⟨_, _, hr, by simpa [World.setCells] using hown2, Below.refl _ _, ⟨rfl, rfl, rfl, Nat.le_refl _, fun _ _ _ => rfl⟩⟩
/-- a slice literal -/
theorem rows_lit (W : World) (t : TypeId) (hk : ∀ x, (enc x).length = k) (l : List α) : RowV k enc (W.alloc (.cells (rowCells enc l).toArray t)) (.slice (some ⟨W.heap.size, 0, none⟩) l.length l.length) l :=
  ⟨_, _, rfl, Nat.le_refl _, .inr ⟨W.heap.size, 0, rfl, by simp, fun i x hx j u hj => by rw [cellAt (newAt rfl), Nat.zero_add, List.getElem?_toArray]; exact rowCells_get hk l i x hx j u hj⟩⟩
/-- the operation, in a walk -/
theorem wpList_app_run {ops : Array Oper} {rest : List Oper} {o : Oper} {a : Act} {W : World} {Q : Exit → Act → World → Prop} {t : TypeId} {v y v' : Value} {W' : World} (hgd : o.guard = none) (s x : Operand)
    (ho : o.op = .call { callee := .builtin .append, args := #[s, x], argTypes := #[t, t] }) (hs : a.eval s = v) (hx : a.eval x = y)
    (hr : (Builtin.append_ #[t, t] o.type #[v, y]).run P W = .ok v' W') (h : wpList P ops Q rest (a.put o.dst v') W') : wpList P ops Q (o :: rest) a W :=
  wpList_plain hgd fun _ hK => by
    unfold Oper.wp execOp
    simp only [ho, resolve, invoke, builtin, Sem.run_bind, Sem.run_pure, Result.andThen_ok, List.map_toArray, List.map_cons, List.map_nil, hs, hx, hr]
    exact hK _ _ h
/-- the first elements of a slice -/
theorem RowV.first {W : World} {l : List α} {a : Option Addr} {n cap : Nat} (hv : RowV k enc W (.slice a n cap) l) (m : Nat) (hm : m ≤ l.length) : RowV k enc W (.slice a m cap) (l.take m) := by
  obtain ⟨a', c', he, hc, ha⟩ := hv
  cases he
  have hl : (l.take m).length = m := by rw [List.length_take, Nat.min_eq_left hm]
  refine ⟨_, _, by rw [hl], by rw [hl]; omega, ?_⟩
  rcases ha with rfl | ⟨b, o, rfl, hb, hat⟩
  · left; simp
  · right
    refine ⟨b, o, rfl, hb, fun i x hx => ?_⟩
    rw [List.getElem?_take] at hx
    split at hx
    · exact hat _ _ hx
    · cases hx
/-- a part of a slice -/
theorem RowV.sub {W : World} {l : List α} {a : Option Addr} {cap : Nat} (hv : RowV k enc W (.slice a l.length cap) l) (i j : Nat) (hij : i ≤ j) (hj : j ≤ l.length) : RowV k enc W (.slice (a.map fun x => ⟨x.block, x.off + i * k, x.spot⟩) (j - i) (cap - i)) ((l.take j).drop i) := by
  obtain ⟨a', c', he, hc, ha⟩ := hv
  cases he
  have hl : ((l.take j).drop i).length = j - i := by rw [List.length_drop, List.length_take, Nat.min_eq_left hj]
  refine ⟨_, _, by rw [hl], by rw [hl]; omega, ?_⟩
  rcases ha with rfl | ⟨b, o, rfl, hb, hat⟩
  · left; simp
  · right
    refine ⟨b, o + i * k, rfl, hb, fun m x hx => ?_⟩
    rw [List.getElem?_drop, List.getElem?_take] at hx
    split at hx
    · have := hat _ _ hx
      rwa [Nat.add_mul, ← Nat.add_assoc] at this
    · cases hx
end
end Go.Proofs.YtllbphanfahkkaaDoor

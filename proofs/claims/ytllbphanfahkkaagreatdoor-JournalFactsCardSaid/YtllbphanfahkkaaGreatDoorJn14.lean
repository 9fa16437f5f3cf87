/-
  Package royaltylaw23: JournalRoom.
-/
import Derived.Test.YtllbphanfahkkaaGreatDoorJn13
namespace Go.Proofs.YtllbphanfahkkaaGreatDoor
open Go.RowKit RG
theorem run_app_atJ {P : Program} {α : Type} {k : Nat} {enc : α → List Value} {t e : TypeId} {z : Value} {bytes : Nat} (ty : TypeId) (ht : P.underlying t = some (.slice e)) (hinfo : (P.info? e).map (fun i => (i.zero, i.size, i.bytes)) = some (some z, k, bytes)) (hzs : z.cells.size = k) (h0 : 0 < k)
    (hk : ∀ x, (enc x).length = k) (hone : ∀ x, ∀ u ∈ enc x, u.oneCell' = true) {W : World} {B : Nat} {v y : Value} {l m : List α} (hown : W.ownsRow B e k v l.length (rowCells enc l)) (hB : B ≤ W.heap.size) (hy : RowV k enc W y m)
    (hlen : l.length + m.length ≤ maxLen) (hby : (l.length + m.length) * bytes ≤ 140737488355328) :
    ∃ v' W', (Builtin.append_ #[t, t] ty #[v, y]).run P W = .ok v' W' ∧ W'.ownsRow B e k v' (l ++ m).length (rowCells enc (l ++ m)) ∧ Below B W W' ∧ W.grownBy W' v.ownBlock ∧ (v'.ownBlock = v.ownBlock ∨ v'.ownBlock = some W.heap.size) := by
  obtain ⟨i0, hi, hz0, hz1, hz2⟩ := info_parts hinfo
  obtain ⟨a, c, rfl, _, ha⟩ := hy
  cases a with
  | some ad =>
    have hnews : ∀ j u, (rowCells enc m)[j]? = some u → W.cell? (ad.add j) = some u := by
      rcases ha with rfl | ⟨b, o, hab, _, hc⟩
      · intro j u hj; simp [rowCells] at hj
      · cases hab
        exact rowV_cells hk h0 hc
    obtain ⟨v', w3, hr, h2, h3, _, h6⟩ := run_append_own_at (P := P) W B t ty e i0 z k bytes ht hi hz0 hz1 hz2 hzs h0 v l.length (rowCells enc l) hown ad m.length c (rowCells enc m) (rowCells_len hk m) hnews (rowCells_one hone m) hlen hby hB
    refine ⟨v', w3, hr, ?_, (Below.refl B W).grown h3 hB (fun k hk => (hown.lt k hk).1), h3, h6⟩
    rw [rowCells_append, List.length_append]
    exact h2
  | none =>
    obtain rfl : m = [] := by
      rcases ha with rfl | ⟨b, o, hab, _⟩
      · rfl
      · cases hab
    have hown2 := hown
    rcases hown.2 with ⟨rfl, h00⟩ | ⟨g, cap, cur, rfl, _, hg, hn, _⟩
    · obtain rfl := List.length_eq_zero_iff.1 h00
      refine ⟨.slice none 0 0, W, ?_, by simpa using hown2, Below.refl _ _, ⟨rfl, rfl, rfl, Nat.le_refl _, fun _ _ _ => rfl⟩, .inl rfl⟩
      have hs : Src P i0.size t (.slice none 0 c) 0 [] W := Src.ofNil W ht c
      simp [Builtin.append_, run_underlying ht, sizeOf, typeInfo, hi, hs.len, hs.cells]
    · have hr := run_append_room_src (P := P) W t t ty e i0 ht hi g 0 l.length cap (.slice none 0 c) 0 [] (by rw [hz1]; exact Src.ofNil W ht c) (by omega) (by simp) (by simp)
      exact ⟨_, _, hr, by simpa [World.setCells] using hown2, Below.refl _ _, ⟨rfl, rfl, rfl, Nat.le_refl _, fun _ _ _ => rfl⟩, .inl rfl⟩
theorem rowCells_str (l : List ByteArray) : rowCells (fun s : ByteArray => [Value.string s]) l = l.map Value.string := by
  unfold rowCells
  induction l with
  | nil => rfl
  | cons a t ih => rw [List.flatMap_cons, ih]; rfl
theorem run_app_rowS {W : World} {B : Nat} {v y : Value} {l m : List ByteArray} (hown : StrsOwn W B v l) (hB : B ≤ W.heap.size) (hy : StrR W y m) (hlen : l.length + m.length ≤ 1000000) :
    ∃ v' W', (Builtin.append_ #[22, 22] 22 #[v, y]).run Tryz.prog W = .ok v' W' ∧ StrsOwn W' B v' (l ++ m) ∧ Below B W W' ∧ W.grownBy W' v.ownBlock := by
  obtain ⟨v', W', h1, h2, h3, h4, _⟩ := run_app_atJ (P := Tryz.prog) (enc := fun s : ByteArray => [Value.string s]) 22 Tryz.underlying22 str_info rfl (by decide) (fun _ => rfl) (fun _ u hu => by simp at hu; subst hu; rfl) (by rw [rowCells_str]; exact hown) hB hy (by unfold maxLen; omega) (by omega)
  rw [rowCells_str] at h2
  exact ⟨v', W', h1, h2, h3, h4⟩
namespace RW
/-- Cut(0), then an attempt -/
theorem off_app {H : List UInt8 → List UInt8} {n : Nat} {S : Dk} {rs : List ByteArray} (hH : ∀ l, (H l).length = 32) (h : JInv H n S rs) : ∃ S5 : Dk, S.cut 0 = (0, S5) ∧ S5.pend = [] ∧
    (n - (stos H z32 rs).length < 35 → japp H n S5 rs false [⟨#[120]⟩] = (231, rs, false, S5)) ∧ (¬ (n - (stos H z32 rs).length < 35) → japp H n S5 rs false [⟨#[120]⟩] = (221, rs, true, S5)) := by
  have hl : ∀ r ∈ [(⟨#[120]⟩ : ByteArray)], r.size ≤ 65536 := fun r hr => by
    rcases List.mem_cons.1 hr with rfl | hr
    · decide
    · cases hr
  have h35 : (stos H (hds H z32 rs) [⟨#[120]⟩]).length = 35 := by
    rw [one_len hH, show (putS (⟨#[120]⟩ : ByteArray).data.toList).length = 2 by decide +kernel]
  refine ⟨⟨true, 0, S.dur, S.vis, S.pend⟩, ?_, h.pend, fun hs => japp_full (no_long hl) (by rw [h35]; exact hs), fun hs => ?_⟩
  · unfold Dk.cut
    rw [if_neg (by rw [h.off]; simp), if_neg (by decide)]
    rfl
  · rw [japp_wr (no_long hl) (by rw [h35]; exact hs) (by simp) rfl]
    have e : wrsy n ⟨true, 0, S.dur, S.vis, S.pend⟩ ((stos H z32 rs).length + 1) ((stos H (hds H z32 rs) [⟨#[120]⟩]).drop 1) = (221, ⟨true, 0, S.dur, S.vis, S.pend⟩) := by
      unfold wrsy Dk.write
      simp
    rw [e]
    simp
end RW
end Go.Proofs.YtllbphanfahkkaaGreatDoor

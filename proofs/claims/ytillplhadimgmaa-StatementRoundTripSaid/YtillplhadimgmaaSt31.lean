/-
  Statements, plain: the statements of books that Make makes are valid.
-/
import Derived.Test.YtillplhadimgmaaSt29
namespace Go.Proofs.Ytillplhadimgmaa
open Go.RowKit RG
namespace RW
theorem monL_mk {a b : List Rw} (ha : Mk a) (hb : Mk b) (h p : Int) : monL (lnOf b a h p) = true := by
  have h1 := paid_ok ha.1 h p
  have h2 := paid_ok hb.1 h p
  have h3 := ha.2
  have h4 := hb.2
  unfold lnOf
  rw [monL, Bool.and_eq_true, mon_iff, mon_iff]
  dsimp only
  omega
theorem lnsB_mk {a b : List Rw} (ha : Mk a) (hb : Mk b) (h : Int) : ∀ (ps : List Int) (z : Int), ps.Pairwise (· < ·) → (∀ p ∈ ps, z < p ∧ p < 1200) → lnsB z ((ps.map (lnOf b a h)).filter dif) = true
  | [], _, _, _ => rfl
  | p :: t, z, hp, hz => by
    rw [List.pairwise_cons] at hp
    have h0 := hz p List.mem_cons_self
    rw [List.map_cons]
    by_cases e : dif (lnOf b a h p) = true
    · rw [List.filter_cons_of_pos e, lnsB, e, monL_mk ha hb h p, show (lnOf b a h p).1 = p from rfl, decide_eq_true h0.1, decide_eq_true h0.2, lnsB_mk ha hb h t p hp.2 fun q hq => ⟨hp.1 q hq, (hz q (List.mem_cons_of_mem _ hq)).2⟩]
      rfl
    · rw [List.filter_cons_of_neg e]
      exact lnsB_mk ha hb h t z hp.2 fun q hq => hz q (List.mem_cons_of_mem _ hq)
theorem valB_mk {a b : List Rw} (ha : Mk a) (hb : Mk b) {z : Int} (h0 : 0 ≤ z) (h1 : z < 1200) {s : St} (hs : s ∈ stAll b a z) : valB s = true := by
  have ok : ∀ r ∈ b ++ a, MkOk r := fun r hr => by
    rw [List.mem_append] at hr
    rcases hr with hr | hr
    · exact hb.1 r hr
    · exact ha.1 r hr
  unfold stAll at hs
  rw [List.mem_filter, List.mem_map, decide_eq_true_eq] at hs
  obtain ⟨⟨h, hh, rfl⟩, hl⟩ := hs
  obtain ⟨r, hr, rfl⟩ := mem_hols.1 hh
  have hk := ok r hr
  unfold MkOk at hk
  have hl2 : 1 ≤ (lns b a (r 0)).length := hl
  unfold valB stOf
  dsimp only
  rw [decide_eq_true (show 1 ≤ r 0 ∧ r 0 ≤ 1000000 by omega), decide_eq_true (show 0 ≤ z ∧ z < 1200 from ⟨h0, h1⟩), decide_eq_true hl2]
  unfold lns
  rw [lnsB_mk ha hb (r 0) _ (-1) (pers_up _ _) fun p hp => by
    obtain ⟨q, hq, _, rfl⟩ := mem_pers.1 hp
    have := ok q hq
    unfold MkOk at this
    omega]
  rfl
/-- the bytes of a prefix that is cut off an encoding -/
theorem decT_cut {s : St} (h : valB s = true) (k : Nat) (hk : k < (encS s).length) : decT ((encS s).take k) = .wire :=
  decT_prefix h _ ((encS s).drop k) (List.take_append_drop k _) (by
    intro e
    rw [List.drop_eq_nil_iff] at e
    omega)
end RW
end Go.Proofs.Ytillplhadimgmaa

/-
  FactsetFull, plain: sets of plays.
-/
import Derived.Test.YtnlphbfjeekooaaGreatDoorLw2
import Derived.Test.YtnlphbfjeekooaaGreatDoorFsr
namespace Go.Proofs.YtnlphbfjeekooaaGreatDoor
open Go.RowKit RG
namespace RW
def pid (n : Nat) : ByteArray := idB k0F (playX n)
theorem pid_ne {n m : Nat} (hn : n < 4006) (hm : m < 4006) (h : n ≠ m) : pid n ≠ pid m := by
  unfold pid
  rw [idB_play, idB_play]
  intro e
  have := checkP_ok 3942 (by decide) plays_4006 (show n < 64 + 3942 from hn) (show m < 64 + 3942 from hm) h
  apply this
  have e2 := congrArg (fun b : ByteArray => b.data.toList) e
  simpa using e2
/-- the plays from a to b - 1, and nothing else -/
structure PlC (a b : Nat) (C : Ents) : Prop where
  asc : AscE C
  len : C.length = b - a
  has : ∀ i, i < 4006 → ((KM.get (pid i) C).isSome = true ↔ a ≤ i ∧ i < b)
  all : ∀ x ∈ C, ∃ i, a ≤ i ∧ i < b ∧ x.1 = pid i
theorem PlC.nil (a : Nat) : PlC a a [] := ⟨List.Pairwise.nil, by simp, fun i _ => by rw [KM.get_nil]; constructor; (intro h; cases h); (intro h; omega), fun x hx => by cases hx⟩
theorem play_ok {n : Nat} (hn : n < 4006) : validB (playX n).1 (playX n).2.size = true := play_valid n (by omega)
theorem PlC.known {a b i : Nat} {C : Ents} (h : PlC a b C) (hi : i < 4006) (h1 : a ≤ i) (h2 : i < b) : addR k0F C (playX i) = (false, 0, C) := addR_known (play_ok hi) ((h.has i hi).2 ⟨h1, h2⟩)
theorem PlC.none {a b i : Nat} {C : Ents} (h : PlC a b C) (hi : i < 4006) (h2 : b ≤ i) : (KM.get (pid i) C).isSome = false := by
  cases e : (KM.get (pid i) C).isSome with
  | false => rfl
  | true => have := (h.has i hi).1 e; omega
theorem PlC.full {a b i : Nat} {C : Ents} (h : PlC a b C) (hi : i < 4006) (h2 : b ≤ i) (hf : 4000 ≤ b - a) : addR k0F C (playX i) = (false, 60, C) := addR_full (play_ok hi) (h.none hi h2) (by rw [h.len]; exact hf)
theorem PlC.add {a b : Nat} {C : Ents} (h : PlC a b C) (hab : a ≤ b) (hb : b < 4006) (hf : b - a < 4000) : addR k0F C (playX b) = (true, 0, insE (pid b) (fv (playX b)) C) ∧ PlC a (b + 1) (insE (pid b) (fv (playX b)) C) := by
  have hn := h.none hb (Nat.le_refl _)
  refine ⟨addR_new (play_ok hb) hn (by rw [h.len]; omega), asc_insE _ _ h.asc, ?_, fun i hi => ?_, fun x hx => ?_⟩
  · rw [length_insE _ _ h.asc, hn, h.len]
    show b - a + 1 = _
    omega
  · rw [get_insE _ _ _ h.asc, hn]
    show (if pid i = pid b then some (fv (playX b)) else KM.get (pid i) C).isSome = true ↔ _
    by_cases e : i = b
    · subst e
      rw [if_pos rfl]
      exact ⟨fun _ => ⟨hab, by omega⟩, fun _ => rfl⟩
    · rw [if_neg (pid_ne hi hb e), h.has i hi]
      omega
  · rcases mem_insE hx with rfl | hx
    · exact ⟨b, hab, by omega, rfl⟩
    · obtain ⟨i, h1, h2, h3⟩ := h.all x hx
      exact ⟨i, h1, by omega, h3⟩
theorem PlC.uni {n m : Nat} {C D : Ents} (h : PlC 0 n C) (g : PlC n (n + m) D) (hm : n + m ≤ 4006) : PlC 0 (n + m) (uniE D C) := by
  have hk : ∀ x ∈ D.map (·.1), (KM.get x C).isSome = false := fun x hx => by
    obtain ⟨y, hy, rfl⟩ := List.mem_map.1 hx
    obtain ⟨i, h1, h2, h3⟩ := g.all y hy
    rw [h3]
    exact h.none (by omega) h1
  refine ⟨asc_uniE D h.asc, ?_, fun i hi => ?_, fun x hx => ?_⟩
  · rw [uniE_len g.asc h.asc, List.filter_eq_self.2 (fun x hx => by rw [hk x hx]; rfl), List.length_map, h.len, g.len]
    omega
  · rw [get_uniE _ D (AscB.nodup g.asc) h.asc]
    have e1 := h.has i hi
    have e2 := g.has i hi
    cases e : KM.get (pid i) D with
    | some v =>
      rw [e] at e2
      have := e2.1 rfl
      exact ⟨fun _ => ⟨Nat.zero_le _, this.2⟩, fun _ => rfl⟩
    | none =>
      rw [e] at e2
      have h3 : ¬ (n ≤ i ∧ i < n + m) := fun hh => by have := e2.2 hh; cases this
      show (KM.get (pid i) C).isSome = true ↔ _
      rw [e1]
      omega
  · have hs := get_isSome.2 (List.mem_map_of_mem (f := (·.1)) hx)
    rw [get_uniE _ D (AscB.nodup g.asc) h.asc] at hs
    cases e : KM.get x.1 D with
    | some v =>
      obtain ⟨i, h1, h2, h3⟩ := g.all _ (KM.get_mem e)
      exact ⟨i, Nat.zero_le _, h2, h3⟩
    | none =>
      rw [e] at hs
      obtain ⟨v, hv⟩ := Option.isSome_iff_exists.1 hs
      obtain ⟨i, h1, h2, h3⟩ := h.all _ (KM.get_mem hv)
      exact ⟨i, Nat.zero_le _, by omega, h3⟩
theorem PlC.sizes {a b : Nat} {C : Ents} (h : PlC a b C) : ∀ x ∈ C, x.1.size ≤ 1000000 := fun x hx => by
  obtain ⟨i, _, _, e⟩ := h.all x hx
  rw [e]
  unfold pid
  rw [idB_size]
  decide
end RW
end Go.Proofs.YtnlphbfjeekooaaGreatDoor

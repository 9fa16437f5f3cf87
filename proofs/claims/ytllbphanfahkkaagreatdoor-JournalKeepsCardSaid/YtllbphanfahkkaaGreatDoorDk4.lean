/-
  Package disk: settle: what it changes.
-/
import Derived.Test.YtllbphanfahkkaaGreatDoorDk3
namespace Go.Proofs.YtllbphanfahkkaaGreatDoor
open Go.RowKit RG
theorem write_zero (w : World) : (zeroValue 103).run Tryz.prog w = .ok (.agg #[.int .i64 0, .string ⟨#[]⟩]) w := by go_simp
/-- some blocks may change -/
structure ChgS (Q : Nat → Prop) (W W' : World) : Prop where
  os : W'.os = W.os
  tape : W'.tape = W.tape
  output : W'.output = W.output
  size : W.heap.size ≤ W'.heap.size
  block : ∀ k, k < W.heap.size → ¬ Q k → W'.heap[k]? = W.heap[k]?
theorem ChgS.refl (Q : Nat → Prop) (W : World) : ChgS Q W W := ⟨rfl, rfl, rfl, Nat.le_refl _, fun _ _ _ => rfl⟩
theorem ChgS.trans {Q : Nat → Prop} {W W' W'' : World} (h : ChgS Q W W') (g : ChgS Q W' W'') : ChgS Q W W'' :=
  ⟨g.os.trans h.os, g.tape.trans h.tape, g.output.trans h.output, Nat.le_trans h.size g.size, fun k hk h1 => (g.block k (Nat.lt_of_lt_of_le hk h.size) h1).trans (h.block k hk h1)⟩
theorem ChgS.set {Q : Nat → Prop} {b i : Nat} {W W' : World} (h : ChgS Q W W') (hb : Q b) (v : Value) : ChgS Q W (W'.setCell ⟨b, i, none⟩ v) :=
  h.trans ⟨rfl, rfl, rfl, by simp, fun k _ hk => Below.heap_setCell _ _ _ _ (fun e => hk (e ▸ hb))⟩
theorem ChgS.row {Q : Nat → Prop} {b : Nat} {W W' : World} (h : ChgS Q W W') (hb : Q b) (cs : Array Value) : ChgS Q W (W'.setRow b cs) :=
  h.trans ⟨rfl, rfl, rfl, by simp [World.setRow], fun k _ hk => setRow_else _ _ _ _ (fun e => hk (e ▸ hb))⟩
theorem ChgS.grown {Q : Nat → Prop} {W W' W'' : World} {g : Option Nat} (h : ChgS Q W W') (hg : W'.grownBy W'' g) (hq : ∀ k, g = some k → Q k) : ChgS Q W W'' :=
  h.trans ⟨hg.os, hg.tape, hg.output, hg.size, fun k hk hn => hg.block k hk fun e => hn (hq k e.symm)⟩
theorem blocks_ne {W : World} {i j : Nat} {c c' : Array Value} {t t' : TypeId} {f f' : Nat × Nat} (h1 : W.heap[i]? = some (.cells c t f)) (h2 : W.heap[j]? = some (.cells c' t' f')) (hne : t ≠ t') : i ≠ j := by
  rintro rfl
  rw [h1] at h2
  injection h2 with h2
  injection h2 with _ h2
  exact hne h2
theorem own_keep {W W' : World} {B : Nat} {e : TypeId} {k n : Nat} {v : Value} {xs : List Value} (h : W.ownsRow B e k v n xs) (hk : ∀ g, v.ownBlock = some g → W'.heap[g]? = W.heap[g]?) : W'.ownsRow B e k v n xs := by
  refine ⟨h.1, h.2.imp id ?_⟩
  rintro ⟨g, cap, cur, rfl, h2, h3, h4⟩
  exact ⟨g, cap, cur, rfl, h2, (hk g rfl).trans h3, h4⟩
set_option maxRecDepth 10000 in
set_option maxHeartbeats 1000000 in
theorem settle_any (b f t n : Nat) (off : Bool) (left : Int) (dv vv pv : Value) (lf lt : List UInt8) (l : List (Nat × ByteArray)) (B : Nat) (w : World)
    (hr : w.heap[b]? = some (.cells (RW.dkl off left dv vv pv) 108 (0, 0))) (hf : w.heap[f]? = some (.cells (RW.byl lf).toArray 5 (0, 0))) (ht : w.heap[t]? = some (.cells (RW.byl lt).toArray 5 (0, 0)))
    (hlf : lf.length = n) (hlt : lt.length = n) (hp : w.ownsRow B 103 2 pv l.length (rowCells RW.wrl l)) (hft : f ≠ t) :
    Calls Tryz.prog 70 #[.pointer (some ⟨b, 0, none⟩), .slice (some ⟨f, 0, none⟩) n n, .slice (some ⟨t, 0, none⟩) n n] w fun e w' => (∃ v, e = .returned v) ∧ ∃ pv', w'.heap[b]? = some (.cells (RW.dkl off left dv vv pv') 108 (0, 0)) ∧ w'.ownsRow B 103 2 pv' 0 [] ∧ w'.heap[t]? = some (.cells (RW.byl lf).toArray 5 (0, 0)) ∧ (∀ g, pv'.ownBlock = some g → pv.ownBlock = some g) ∧ ChgS (fun j => j = b ∨ j = t ∨ pv.ownBlock = some j) w w' := by
  have hbt : b ≠ t := blocks_ne hr ht (by decide)
  have hbg : ∀ g, pv.ownBlock = some g → g ≠ b ∧ g ≠ t := fun g hg => by
    rcases hp.2 with ⟨rfl, _⟩ | ⟨g', cap, cur, rfl, _, h3, _⟩
    · cases hg
    · cases hg
      exact ⟨blocks_ne h3 hr (by decide), blocks_ne h3 ht (by decide)⟩
  have hcp := run_copy_row (P := Tryz.prog) w 39 39 3 5 t 0 n n ⟨f, 0, none⟩ n n _ _ (RW.byl lf) Tryz.underlying39 byte_info ht (by rw [byl_len, hlf]; exact (Nat.min_self n).symm)
    (fun j v hj => by rw [show (⟨f, 0, none⟩ : Addr).add j = ⟨f, j, none⟩ by rw [Addr.add_mid, Nat.zero_add], cellAt hf j]; simpa using hj) (by rw [Nat.zero_add, List.size_toArray, byl_len, byl_len, hlf, hlt]; exact Nat.le_refl _) (byl_one lf)
  obtain ⟨W1, hW1⟩ : ∃ W, W = w.setRow t ((RW.byl lt).toArray.toList.take 0 ++ RW.byl lf ++ (RW.byl lt).toArray.toList.drop (0 + (RW.byl lf).length)).toArray := ⟨_, rfl⟩
  rw [← hW1] at hcp
  have ht1 : W1.heap[t]? = some (.cells (RW.byl lf).toArray 5 (0, 0)) := by
    rw [hW1]
    refine (setRow_heap _ _ _ _ _ _ ht).trans ?_
    rw [List.take_zero, List.nil_append, Nat.zero_add, List.drop_eq_nil_iff.2 (by simp [byl_len, hlf, hlt]), List.append_nil]
  have hc1 : ChgS (fun j => j = b ∨ j = t ∨ pv.ownBlock = some j) w W1 := by
    rw [hW1]
    exact (ChgS.refl _ w).row (.inr (.inl rfl)) _
  have hr1 : W1.heap[b]? = some (.cells (RW.dkl off left dv vv pv) 108 (0, 0)) := by rw [hW1]; exact (setRow_else _ _ _ _ hbt).trans hr
  have hp1 : W1.ownsRow B 103 2 pv l.length (rowCells RW.wrl l) := own_keep hp fun g hg => by rw [hW1]; exact setRow_else _ _ _ _ (hbg g hg).2
  have c1 : W1.cell? ⟨b, 4, none⟩ = some pv := cellAt hr1 4
  have hgl : (goInt ((RW.byl lf).length : Int)) = .int .i64 n := by rw [byl_len, hlf]; rfl
  have hbtH := hide hbt
  clear hr hf ht hlf hlt hp hft hW1 hbt
  rcases hp1.2 with ⟨rfl, h0⟩ | ⟨g, cap, cur, rfl, hBg, hg, hcap⟩
  · have f1 : W1.frozen? ⟨b, 4, none⟩ = false := by simp [World.frozen?, hr1]
    have ht1H := hide ht1
    have hc1H := hide hc1
    have hr1H := hide hr1
    have hcl : ∀ ty, (Builtin.clear_ #[104] ty #[.slice none 0 0]).run Tryz.prog W1 = .ok (.tuple #[]) W1 := fun ty => by simp [Builtin.clear_, run_underlying Tryz.underlying104]
    have hcl' := hcl 0
    clear ht1 hc1 hr1 hp1 hbg h0 hgl
    go_enter Tryz.func70, Tryz.ntmps70
    go_wp2
    go_end0
    refine ⟨⟨_, rfl⟩, .slice none 0 0, (heap_setCell_same _ _ _ _ _ _ hr1H.out).trans rfl, World.ownsRow_nil _ _ _ _, (Below.heap_setCell _ _ _ _ (Ne.symm hbtH.out)).trans ht1H.out, fun g hg => hg, hc1H.out.set (.inl rfl) _⟩
  · obtain ⟨W2, hcl, hg2, hgrow⟩ : ∃ W2, (∀ ty, (Builtin.clear_ #[104] ty #[.slice (some ⟨g, 0, none⟩) l.length cap]).run Tryz.prog W1 = .ok (.tuple #[]) W2) ∧ W2.ownsRow B 103 2 (.slice (some ⟨g, 0, none⟩) 0 cap) 0 [] ∧ W1.grownBy W2 (some g) := by
      have hcut := own_cut wrl_len hp1 0 (Nat.zero_le _)
      rw [List.take_zero] at hcut
      rcases Nat.eq_zero_or_pos l.length with hz | hz
      · refine ⟨W1, fun ty => ?_, hcut, World.grownBy.refl _ _⟩
        rw [hz]
        simp [Builtin.clear_, run_underlying Tryz.underlying104]
      · obtain ⟨vs, _, hcl⟩ := run_clear_rows (P := Tryz.prog) W1 104 103 (.agg #[.int .i64 0, .string ⟨#[]⟩]) Tryz.underlying104 write_zero (by intro u hu; simp [Value.cells] at hu; rcases hu with rfl | rfl <;> rfl) g 0 l.length cap hz (own_there hp1 0 _ (by simp [Value.cells]))
        exact ⟨_, hcl, own_tail hcut 0 (by simp) vs, setCells_grown vs W1 g 0⟩
    have hng := hbg g rfl
    have hr2 : W2.heap[b]? = some (.cells (RW.dkl off left dv vv (.slice (some ⟨g, 0, none⟩) l.length cap)) 108 (0, 0)) := (hgrow.block b (Array.getElem?_eq_some_iff.1 hr1).1 (fun e => hng.1 (Option.some.inj e).symm)).trans hr1
    have ht2 := hide ((hgrow.block t (Array.getElem?_eq_some_iff.1 ht1).1 (fun e => hng.2 (Option.some.inj e).symm)).trans ht1)
    have hc2 := hide (hc1.grown hgrow (fun k e => .inr (.inr e)))
    have c2 : W2.cell? ⟨b, 4, none⟩ = some (.slice (some ⟨g, 0, none⟩) l.length cap) := cellAt hr2 4
    have f2 : W2.frozen? ⟨b, 4, none⟩ = false := by simp [World.frozen?, hr2]
    have hg2H := hide hg2
    have hr2H := hide hr2
    have hngH := hide hng
    have hcl' := hcl 0
    obtain ⟨k, hk⟩ : ∃ k, k = l.length := ⟨_, rfl⟩
    have hkc : k ≤ cap := by rw [hk]; exact hcap.1
    rw [← hk] at hcl hcl' c1 c2 hr2H hc2
    clear ht1 hc1 hr1 hp1 hbg hgl hg2 hr2 hgrow hg hcap hng hBg hk
    go_enter Tryz.func70, Tryz.ntmps70
    go_wp2
    go_end0
    refine ⟨⟨_, rfl⟩, _, (heap_setCell_same _ _ _ _ _ _ hr2H.out).trans rfl, ?_, (Below.heap_setCell _ _ _ _ (Ne.symm hbtH.out)).trans ht2.out, fun g hg => hg, hc2.out.set (.inl rfl) _⟩
    exact own_keep hg2H.out fun j hj => by cases hj; exact Below.heap_setCell _ _ _ _ hngH.out.1
end Go.Proofs.YtllbphanfahkkaaGreatDoor

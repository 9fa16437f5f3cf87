/-
  Package journal: pieces of Append: the predicate, the text of a builder, what may turn, the plain law of the outcome.
-/
import Derived.Test.YtllbphanfahkkaaGreatDoorMQ0
import Derived.Test.YtllbphanfahkkaaGreatDoorBldS
namespace Go.Proofs.YtllbphanfahkkaaGreatDoor
open Go.RowKit RG
theorem freeze_other (w : World) (g k n : Nat) (h : k ≠ g) : (w.freeze ⟨g, 0, none⟩ n).heap[k]? = w.heap[k]? := by
  unfold World.freeze
  split
  · rfl
  · simp only [Array.getElem?_modify]
    rw [if_neg (Ne.symm h)]
set_option maxHeartbeats 1000000 in
set_option maxRecDepth 100000 in
/-- the text of a builder that holds a byte: its row of bytes alone turns -/
theorem bstring (B b : Nat) (l : List UInt8) (w : World) (h : Lib.IsBuilder 89 5 B b (Lib.byteCells l) w) (h0 : l ≠ []) :
    Calls Tryz.prog 44 #[.pointer (some ⟨b, 0, none⟩)] w fun e w' => e = .returned (.string ⟨l.toArray⟩) ∧ Below B w w' ∧ RW.BKept 5 b w w' := by
  obtain ⟨p, hB, v, hbk, hown, hne⟩ : ∃ p, Lib.BuilderAt 89 5 B b p (Lib.byteCells l) w := by
    rcases h with h | h
    · exact ⟨_, h⟩
    · exact ⟨_, h⟩
  have hl0 : l.length ≠ 0 := by simpa using h0
  rw [Lib.byteCells_length] at hown
  obtain ⟨g, cap, cur, rfl, hbg, hg, hnc, hcm, hcs, htake⟩ : ∃ g cap cur, v = .slice (some ⟨g, 0, none⟩) l.length cap ∧ B ≤ g ∧ w.heap[g]? = some (.cells cur 5 (0, 0)) ∧ l.length ≤ cap ∧ cap ≤ maxLen ∧ cur.size = cap * 1 ∧ cur.toList.take (l.length * 1) = Lib.byteCells l := by
    rcases hown.2 with ⟨_, hz⟩ | ⟨g, cap, cur, hv, r⟩
    · exact absurd hz hl0
    · exact ⟨g, cap, cur, hv, r⟩
  have c1 : w.drew.cell? ⟨b, 1, none⟩ = some (.slice (some ⟨g, 0, none⟩) l.length cap) := by
    have : w.drew.heap[b]? = some (.cells #[p, .slice (some ⟨g, 0, none⟩) l.length cap] 89 (0, 0)) := hbk
    rw [Lib.cell_of_heap this]; rfl
  have hSD : (Builtin.unsafeSliceData_ #[39] 163 #[.slice (some ⟨g, 0, none⟩) l.length cap]).run Tryz.prog w.drew = .ok (.pointer (some ⟨g, 0, none⟩)) w.drew :=
    Lib.run_unsafeSliceData_row _ _ _ _ _ _ (by omega)
  have hUS : (Builtin.unsafeString_ #[163, 3] 9 #[.pointer (some ⟨g, 0, none⟩), .int .i64 l.length]).run Tryz.prog w.drew = .ok (.string ⟨l.toArray⟩) (w.drew.freeze ⟨g, 0, none⟩ l.length) := by
    refine Lib.run_unsafeString_row w.drew 163 3 9 5 Tryz.underlying163 SH.Builder_Extra_169.cellsByte g cur.size (by have hg' : w.drew.heap[g]? = some (.cells cur 5 (0, 0)) := hg; simp [World.shape?, hg']) l h0 (by omega) (by unfold maxLen at hcm; omega) ?_
    intro j x hx
    have := hown.cells (g := g) rfl j (.int .u8 x.toNat) (by simp [Lib.byteCells, hx])
    exact this
  have hK : RW.BKept 5 b w (w.drew.freeze ⟨g, 0, none⟩ l.length) := fun k cs t fr hk ht _ => by
    refine (freeze_other _ _ _ _ ?_).trans rfl
    rintro rfl
    rw [hg] at hk
    cases hk
    exact ht rfl
  have hKH := hide hK
  clear hK
  have mixed : Tryz.prog.follows .mixedOrders = true := by kernel_rfl
  go_enter Tryz.func44, Tryz.ntmps44
  go_wp2
  go_region_o
  all_goals (go_wp2; go_ret; exact ⟨rfl, Lib.below_freeze (Below.drew (Below.refl B w)) (p := ⟨g, 0, none⟩) hbg _, hKH.out⟩)
theorem append1_any (s : ByteArray) (w : World) : Calls Tryz.prog 39 #[.string s] w fun e w' => e = .returned (.bool (decide (65536 < s.size))) ∧ ∃ q, w' = w.drewN q := by
  have hd : decide ((65536 : Int) < (s.size : Int)) = decide (65536 < s.size) := by
    by_cases h : 65536 < s.size
    · rw [decide_eq_true h, decide_eq_true (by omega)]
    · rw [decide_eq_false h, decide_eq_false (by omega)]
  go_enter Tryz.func39, Tryz.ntmps39
  go_wp2
  go_ret
  exact ⟨by first | rfl | rw [← hd], 0, rfl⟩
theorem enters_app1 : ∀ args w, (callFunc 39 args).run Tryz.prog w = .ok (.enter 39 args) w := fun args w => by go_simp
theorem containsLong {W : World} {v : Value} {l : List ByteArray} (h : StrR W v l) (hl : l.length ≤ 5000000) : Calls Tryz.prog 40 #[v, .func (.func 39) #[] #[]] W fun e w' => e = .returned (.bool (l.any fun s => decide (65536 < s.size))) ∧ ∃ q, w' = W.drewN q := by
  obtain ⟨a, c, rfl, _, hr⟩ := h
  rcases hr with rfl | ⟨b, o, rfl, _, hc⟩
  · refine (SH.slices_ContainsFunc_empty (α := ByteArray) a c (.func (.func 39) #[] #[]) W).mono ?_
    rintro e w' ⟨rfl, rfl⟩
    exact ⟨rfl, 0, rfl⟩
  · refine (SH.slices_ContainsFunc (fun s : ByteArray => Value.string s) (fun s => decide (65536 < s.size)) 39 #[] enters_app1 b o l.length c l W (fun W' x _ => append1_any x W') (Nat.le_refl _) (by omega) (fun j hj => ?_)).mono ?_
    · have e1 := hc j _ (List.getElem?_eq_getElem hj) 0 _ rfl
      rw [Nat.mul_one, Nat.add_zero] at e1
      rw [e1]
      simp [hj]
    · rintro e w' ⟨rfl, hq⟩
      rw [List.take_length]
      exact ⟨rfl, hq⟩
/-- what a call on a journal may turn -/
structure TchJ (jb b db vb : Nat) (W W' : World) : Prop where
  os : W'.os = W.os
  tape : W'.tape = W.tape
  output : W'.output = W.output
  size : W.heap.size ≤ W'.heap.size
  block : ∀ k, k < W.heap.size → k ≠ jb → k ≠ b → k ≠ db → k ≠ vb → (∀ cur fr, W.heap[k]? ≠ some (.cells cur 103 fr)) → W'.heap[k]? = W.heap[k]?
theorem TchJ.of_tch {jb b db vb : Nat} {W W' : World} (h : Tch b db vb W W') : TchJ jb b db vb W W' := ⟨h.os, h.tape, h.output, h.size, fun k hk _ h1 h2 h3 h4 => h.block k hk h1 h2 h3 h4⟩
theorem TchJ.trans {jb b db vb : Nat} {W W' W'' : World} (h : TchJ jb b db vb W W') (g : TchJ jb b db vb W' W'') : TchJ jb b db vb W W'' :=
  ⟨g.os.trans h.os, g.tape.trans h.tape, g.output.trans h.output, Nat.le_trans h.size g.size, fun k hk h0 h1 h2 h3 h4 => by
    have e := h.block k hk h0 h1 h2 h3 h4
    rw [← e]
    exact g.block k (Nat.lt_of_lt_of_le hk h.size) h0 h1 h2 h3 (by rw [e]; exact h4)⟩
theorem TchJ.of_chg {jb b db vb : Nat} {W W' : World} (h : Chg jb W W') : TchJ jb b db vb W W' := ⟨h.os, h.tape, h.output, h.size, fun k hk h0 _ _ _ _ => h.block k hk h0⟩
/-- the builder when blocks other than its own have turned -/
theorem bld_other {B b : Nat} {bs : List Value} {W W' : World} {Q : Nat → Prop} (h : Lib.IsBuilder 89 5 B b bs W) (hc : ChgS Q W W') (hQ : ∀ k c t fr, Q k → W.heap[k]? = some (.cells c t fr) → t ≠ 89 ∧ t ≠ 5) : Lib.IsBuilder 89 5 B b bs W' := by
  have key : ∀ p, Lib.BuilderAt 89 5 B b p bs W → Lib.BuilderAt 89 5 B b p bs W' := by
    rintro p ⟨hB, v, hb, ho, hne⟩
    refine ⟨hB, v, (hc.block b (Array.getElem?_eq_some_iff.1 hb).1 fun hq => (hQ b _ _ _ hq hb).1 rfl).trans hb, own_keep ho fun g hg => ?_, hne⟩
    obtain ⟨_, hl, c, fr, hcc⟩ := own_blk ho hg
    exact hc.block g hl fun hq => (hQ g _ _ _ hq hcc).2 rfl
  exact h.imp (key _) (key _)
/-- a tape when its builder has turned -/
theorem TA.bkept {W W' w : World} {B tb bb : Nat} {rv0 rv : Value} {hd : ByteArray} {n : Nat} {rest : List Value} {T : TypeId} {rs : List ByteArray} (h : TA W w B tb rv0 rv hd n rest T rs) (hT : T ≠ 5) (hk : RW.BKept 5 bb W W') (hne : tb ≠ bb) (hr : ∀ g, rv.ownBlock = some g → g ≠ bb) (hch : ChgS (fun j => j = tb ∨ rv0.ownBlock = some j) w W') : TA W' w B tb rv0 rv hd n rest T rs :=
  ⟨(hk tb _ _ _ h.b hT hne).trans h.b, own_keep h.own fun g hg => by
    obtain ⟨_, hl, c, fr, hcc⟩ := own_blk h.own hg
    exact hk g _ _ _ hcc (by decide) (hr g hg), hch, h.ob⟩
namespace RW
theorem take_snocB {l : List ByteArray} {j : Nat} {x : ByteArray} (h : l[j]? = some x) : l.take (j + 1) = l.take j ++ [x] := by
  rw [List.take_add_one, h]
  rfl
theorem stos_len_le {H : List UInt8 → List UInt8} (hH : ∀ l, (H l).length = 32) : ∀ (rs : List ByteArray) (h : List UInt8), (∀ r ∈ rs, r.size ≤ 65536) → (stos H h rs).length ≤ 65600 * rs.length
  | [], _, _ => by simp [stos]
  | r :: rs, h, hs => by
    have h1 := hs r (by simp)
    have h2 := stos_len_le hH rs (chn H h r) fun q hq => hs q (by simp [hq])
    have h3 := sto_len H hH h r
    have h4 := putI_len (r.data.toList.length : Int)
    have h5 : r.data.toList.length = r.size := by rw [Array.length_toList]; rfl
    have h6 : (putS r.data.toList).length = (putI (r.data.toList.length : Int)).length + r.data.toList.length := by unfold putS; rw [List.length_append]
    show (sto H h r ++ stos H (chn H h r) rs).length ≤ _
    rw [List.length_append, List.length_cons]
    omega
end RW
end Go.Proofs.YtllbphanfahkkaaGreatDoor

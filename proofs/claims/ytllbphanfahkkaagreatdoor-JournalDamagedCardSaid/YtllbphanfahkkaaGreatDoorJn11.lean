/-
  Journals: plain laws of Append and Open while no loss of power is scheduled; the calls on a journal, as one state.
-/
import Derived.Test.YtllbphanfahkkaaGreatDoorJn10
namespace Go.Proofs.YtllbphanfahkkaaGreatDoor
open Go.RowKit RG
namespace RW
section
variable {H : List UInt8 → List UInt8} (hH : ∀ l, (H l).length = 32)
theorem inv_dk0 (n : Nat) : JInv H n (dk0 n) [] := ⟨by simp [cont, stos, dk0], by simp [cont, stos, dk0], rfl, rfl, Nat.zero_le _, fun _ h => by cases h⟩
theorem no_long {l : List ByteArray} (h : ∀ r ∈ l, r.size ≤ 65536) : l.any (fun r => decide (65536 < r.size)) = false := by
  rw [List.any_eq_false]
  intro r hr
  have := h r hr
  simp
  omega
include hH
theorem japp_fit {n : Nat} {S : Dk} {rs l : List ByteArray} (h : JInv H n S rs) (h0 : S.left = 0) (hl : ∀ r ∈ l, r.size ≤ 65536) (hf : (stos H z32 rs).length + (stos H (hds H z32 rs) l).length ≤ n) :
    ∃ S', japp H n S rs false l = (0, rs ++ l, false, S') ∧ JInv H n S' (rs ++ l) ∧ S'.left = 0 := by
  by_cases hnil : l = []
  · subst hnil
    rw [List.append_nil]
    exact ⟨S, japp_none, h, h0⟩
  have hj := japp_out H hH h l
  rw [japp_wr (no_long hl) (by omega) hnil rfl] at hj ⊢
  generalize (if (wrsy n S ((stos H z32 rs).length + 1) ((stos H (hds H z32 rs) l).drop 1)).1 ≠ 0 then wrsy n S ((stos H z32 rs).length + 1) ((stos H (hds H z32 rs) l).drop 1) else wrsy n (wrsy n S ((stos H z32 rs).length + 1) ((stos H (hds H z32 rs) l).drop 1)).2 (stos H z32 rs).length ((stos H (hds H z32 rs) l).take 1)) = R at hj ⊢
  obtain ⟨R1, R2⟩ := R
  have key : ∀ X, JOut H n S rs l X → (X = (R1, rs, true, R2) → False) ∧ (X = (0, rs ++ l, false, R2) → JInv H n R2 (rs ++ l) ∧ R2.left = 0) := by
    intro X hX
    cases hX with
    | same e he =>
      refine ⟨fun e1 => ?_, fun e1 => ?_⟩
      · injection e1 with _ e2
        injection e2 with _ e3
        injection e3 with e4
        cases e4
      · injection e1 with e2
        omega
    | empty he => exact absurd he hnil
    | all S' g g0 =>
      refine ⟨fun e1 => ?_, fun e1 => ?_⟩
      · injection e1 with _ e2
        injection e2 with _ e3
        injection e3 with e4
        cases e4
      · injection e1 with _ e2
        injection e2 with _ e3
        injection e3 with _ e4
        subst e4
        exact ⟨g, g0 h0⟩
    | lost S' _ h1 => exact absurd h0 h1
  by_cases hR : R1 ≠ 0
  · rw [if_pos hR] at hj
    exact absurd rfl (key _ hj).1
  · rw [if_neg hR] at hj ⊢
    obtain ⟨g1, g2⟩ := (key _ hj).2 rfl
    exact ⟨R2, rfl, g1, g2⟩
/-- whatever is appended, while no loss of power is scheduled -/
theorem japp_any {n : Nat} {S : Dk} {rs : List ByteArray} (h : JInv H n S rs) (h0 : S.left = 0) (l : List ByteArray) :
    ∃ x S' rs', japp H n S rs false l = (x, rs', false, S') ∧ JInv H n S' rs' ∧ S'.left = 0 := by
  by_cases hlong : l.any (fun r => decide (65536 < r.size)) = true
  · exact ⟨_, _, _, japp_long (.inr hlong), h, h0⟩
  by_cases hf : n - (stos H z32 rs).length < (stos H (hds H z32 rs) l).length
  · exact ⟨_, _, _, japp_full (by simpa using hlong) hf, h, h0⟩
  have hl : ∀ r ∈ l, r.size ≤ 65536 := fun r hr => by
    have h1 : ¬ 65536 < r.size := fun e => hlong (List.any_eq_true.2 ⟨r, hr, decide_eq_true e⟩)
    omega
  obtain ⟨S', h1, h2, h3⟩ := japp_fit hH h h0 hl (by have := h.fits; omega)
  exact ⟨_, _, _, h1, h2, h3⟩
omit hH
theorem inv_cut {n : Nat} {S : Dk} {rs : List ByteArray} (h : JInv H n S rs) : S.cut 1 = (0, ⟨false, 1, S.dur, S.vis, S.pend⟩) ∧ JInv H n ⟨false, 1, S.dur, S.vis, S.pend⟩ rs := by
  refine ⟨?_, h.vis, h.dur, h.pend, rfl, h.fits, h.lims⟩
  unfold Dk.cut
  rw [if_neg (by rw [h.off]; simp), if_neg (by decide)]
  rfl
theorem inv_read {n : Nat} {S : Dk} {rs : List ByteArray} (h : JInv H n S rs) : (S.read n 0 n).1.size = n := by
  unfold Dk.read
  rw [if_neg (by rw [h.off]; simp), if_pos ((insB_iff n _ _).2 ⟨by omega, by omega, by omega, by omega⟩)]
  show (strOf _).size = n
  rw [strOf_size, show (0 : Int).toNat = 0 from rfl, List.drop_zero, Int.toNat_natCast, List.length_take, h.vis, cont_len H h.fits, Nat.min_self]
end
end RW
/-- a disk, a journal on it, since the world w -/
structure JW (K : Nat → Int) (B b n db vb jb : Nat) (S : RW.Dk) (rs : List ByteArray) (br : Bool) (w W : World) : Prop where
  d : ∃ pv, DiskAt W B b n db vb pv S
  j : ∃ rv, JrAt (RW.sha K) W B jb b rv rs br
  bel : Below B w W
section
variable {K : Nat → Int} {ks : Array Value} {B b n db vb jb : Nat} {S : RW.Dk} {rs l : List ByteArray} {br : Bool} {w W W' : World}
theorem JW.next (h : JW K B b n db vb jb S rs br w W) (hB : Below W.heap.size W W') : JW K B b n db vb jb S rs br w W' := by
  obtain ⟨pv, h1⟩ := h.d
  obtain ⟨rv, h2⟩ := h.j
  exact ⟨⟨pv, h1.next hB⟩, ⟨rv, h2.next hB⟩, h.bel.trans (hB.mono (Nat.le_trans h1.hb (Nat.le_of_lt h1.lt.1)))⟩
theorem JW.tch {S' : RW.Dk} (h : JW K B b n db vb jb S rs br w W) (hd : ∃ pv, DiskAt W' B b n db vb pv S') (hT : Tch b db vb W W') (hB : Below B W W') : JW K B b n db vb jb S' rs br w W' := by
  obtain ⟨pv, h1⟩ := h.d
  obtain ⟨rv, h2⟩ := h.j
  exact ⟨hd, ⟨rv, h2.tch h1 hT⟩, h.bel.trans hB⟩
theorem JW.hn (h : JW K B b n db vb jb S rs br w W) : n ≤ 4194304 := h.d.elim fun _ h => h.hn
theorem JW.hB (h : JW K B b n db vb jb S rs br w W) : B ≤ W.heap.size := h.d.elim fun _ h => Nat.le_trans h.hb (Nat.le_of_lt h.lt.1)
theorem JW.append (hks : RW.WsOk ks K) (h : JW K B b n db vb jb S rs br w W) (hp : S.pend.length < 900000) (hfit : (RW.stos (RW.sha K) RW.z32 rs).length ≤ n) {lv : Value} (hl : StrR W lv l) (hll : l.length ≤ 1000) (hK : KLaid W ks) :
    Calls Tryz.prog 11 #[.pointer (some ⟨jb, 0, none⟩), lv] W fun e w' => e = .returned (.int .i64 (RW.japp (RW.sha K) n S rs br l).1) ∧ JW K B b n db vb jb (RW.japp (RW.sha K) n S rs br l).2.2.2 (RW.japp (RW.sha K) n S rs br l).2.1 (RW.japp (RW.sha K) n S rs br l).2.2.1 w w' ∧ Below B W w' ∧ TchJ jb b db vb W w' := by
  obtain ⟨pv, h1⟩ := h.d
  obtain ⟨rv, h2⟩ := h.j
  refine (Append_any B b n db vb jb pv rv lv S rs l br K ks hks W h1 hp h2 hfit hl hll hK).mono ?_
  rintro e w' ⟨h3, ⟨pv', rv', h4, h5⟩, h6, h7⟩
  exact ⟨h3, ⟨⟨pv', h4⟩, ⟨rv', h5⟩, h.bel.trans h7⟩, h7, h6⟩
theorem JW.room (h : JW K B b n db vb jb S rs br w W) (hfit : (RW.stos (RW.sha K) RW.z32 rs).length ≤ n) :
    Calls Tryz.prog 21 #[.pointer (some ⟨jb, 0, none⟩)] W fun e w' => e = .returned (.int .i64 ((n : Int) - ((RW.stos (RW.sha K) RW.z32 rs).length : Int))) ∧ JW K B b n db vb jb S rs br w w' ∧ Below W.heap.size W w' := by
  obtain ⟨pv, h1⟩ := h.d
  obtain ⟨rv, h2⟩ := h.j
  refine (room_any B b n db vb jb pv rv S rs br (by have := h1.hn; omega) W h1 h2).mono ?_
  rintro e w' ⟨h3, k, rfl⟩
  have hb : Below W.heap.size W (W.drewN k) := ⟨rfl, rfl, rfl, Nat.le_refl _, fun _ _ => rfl⟩
  exact ⟨h3, h.next hb, hb⟩
theorem JW.records (h : JW K B b n db vb jb S rs br w W) (hfit : (RW.stos (RW.sha K) RW.z32 rs).length ≤ n) :
    Calls Tryz.prog 20 #[.pointer (some ⟨jb, 0, none⟩)] W fun e w' => ∃ u, e = .returned u ∧ StrsOwn w' W.heap.size u rs ∧ JW K B b n db vb jb S rs br w w' ∧ Below W.heap.size W w' := by
  obtain ⟨rv, h2⟩ := h.j
  refine (records_any B b jb rv rs br (by have := h.hn; have := RW.stos_ge (RW.sha K) rs RW.z32; omega) W h2).mono ?_
  rintro e w' ⟨u, h3, h4, h5⟩
  exact ⟨u, h3, h4, h.next h5, h5⟩
theorem JW.pending (h : JW K B b n db vb jb S rs br w W) : Calls Tryz.prog 33 #[.pointer (some ⟨b, 0, none⟩)] W fun e w' => e = .returned (.int .i64 (S.pend.length : Int)) ∧ W = w' := by
  obtain ⟨pv, h1⟩ := h.d
  exact pending_any W h1
theorem JW.content (h : JW K B b n db vb jb S rs br w W) : Calls Tryz.prog 23 #[.pointer (some ⟨b, 0, none⟩)] W fun e w' => e = .returned (.string (S.read n 0 n).1) ∧ W = w' := by
  obtain ⟨pv, h1⟩ := h.d
  exact content_any B b n db vb pv S W h1
theorem JW.cut (h : JW K B b n db vb jb S rs br w W) (k : Int) (hk : k ≤ 9223372036854775807) :
    Calls Tryz.prog 30 #[.pointer (some ⟨b, 0, none⟩), .int .i64 k] W fun e w' => e = .returned (.int .i64 (S.cut k).1) ∧ JW K B b n db vb jb (S.cut k).2 rs br w w' ∧ Below B W w' ∧ Tch b db vb W w' := by
  obtain ⟨pv, h1⟩ := h.d
  obtain ⟨rv, h2⟩ := h.j
  refine (cut_any B b n db vb pv S k hk W h1).mono ?_
  rintro e w' ⟨h3, h4, h5, h6⟩
  exact ⟨h3, ⟨⟨pv, h4⟩, ⟨rv, h2.tch h1 h5⟩, h.bel.trans h6⟩, h6, h5⟩
theorem JW.write (h : JW K B b n db vb jb S rs br w W) (o : Int) (s : ByteArray) (hp : S.pend.length < 1000000) (hs : s.size ≤ 9223372036854775807) :
    Calls Tryz.prog 14 #[.pointer (some ⟨b, 0, none⟩), .int .i64 o, .string s] W fun e w' => e = .returned (.int .i64 (S.write n o s).1) ∧ JW K B b n db vb jb (S.write n o s).2 rs br w w' ∧ Below B W w' ∧ Tch b db vb W w' := by
  obtain ⟨pv, h1⟩ := h.d
  obtain ⟨rv, h2⟩ := h.j
  refine (write_any B b n db vb pv S o s W h1 hp hs).mono ?_
  rintro e w' ⟨h3, pv', h4, h5, h6⟩
  exact ⟨h3, ⟨⟨pv', h4⟩, ⟨rv, h2.tch h1 h5⟩, h.bel.trans h6⟩, h6, h5⟩
/-- Open, of a disk that holds records and zeros -/
theorem open_inv (hks : RW.WsOk ks K) {pv : Value} {a : Addr} (h : DiskAt W B b n db vb pv S) (hI : RW.JInv (RW.sha K) n S rs) (hK : KLaid W ks) (hg : W.cell? ⟨1, 0, none⟩ = some (RW.jeW a)) :
    Calls Tryz.prog 26 #[.pointer (some ⟨b, 0, none⟩)] W fun e w' => ∃ jb, e = .returned (.tuple #[.pointer (some ⟨jb, 0, none⟩), .int .i64 0]) ∧ JW K B b n db vb jb S rs false W w' ∧ Tch b db vb W w' := by
  refine (Open_any B b n db vb pv S a K ks hks W h (by rw [hI.pend]; decide) hK hg).mono ?_
  rintro e w' ⟨h1, h2, h3, h4⟩
  rw [RW.jopen_inv (RW.sha K) (RW.sha_len K) hI] at h1 h4
  rcases h4 with ⟨h5, _⟩ | ⟨rs', jb, rv, _, h5, _, h6, h7⟩
  · cases h5
  · injection h5 with h5
    subst h5
    exact ⟨jb, h6, ⟨h1, ⟨rv, h7.mono (Nat.le_trans h.hb (Nat.le_of_lt h.lt.1))⟩, h3⟩, h2⟩
/-- rows of strings lie in other blocks than a disk and a journal -/
theorem own_tchJ {u : Value} {N : Nat} (h : StrsOwn W N u l) (hJ : JW K B b n db vb jb S rs br w W) (hT : TchJ jb b db vb W W') : StrsOwn W' N u l := by
  obtain ⟨pv, h1⟩ := hJ.d
  obtain ⟨rv, h2⟩ := hJ.j
  refine own_keep h fun g hg => ?_
  obtain ⟨_, hl, c, fr, hc⟩ := own_blk h hg
  exact hT.block g hl (blocks_ne hc h2.b (by decide)) (blocks_ne hc h1.row (by decide)) (blocks_ne hc h1.dur (by decide)) (blocks_ne hc h1.vis (by decide)) (fun cur fr2 e => by rw [hc] at e; injection e with e; injection e with _ e; exact absurd e (by decide))
end
end Go.Proofs.YtllbphanfahkkaaGreatDoor

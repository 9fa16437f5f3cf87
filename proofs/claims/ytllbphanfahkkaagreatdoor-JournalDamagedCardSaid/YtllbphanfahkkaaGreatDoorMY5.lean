/-
  Package royaltylaw23: a journal and its reference, each with its disk, as one state.
-/
import Derived.Test.YtllbphanfahkkaaGreatDoorRj3
namespace Go.Proofs.YtllbphanfahkkaaGreatDoor
open Go.RowKit RG
abbrev HH : List UInt8 → List UInt8 := RW.sha RW.k0F
/-- the journal of the program, if there is one -/
def JC (W : World) (B b : Nat) (jp : Option Addr) (jo : Option (List ByteArray × Bool)) : Prop := match jo with
  | none => jp = none
  | some (rs, br) => ∃ jb rv, jp = some ⟨jb, 0, none⟩ ∧ JrAt HH W B jb b rv rs br
/-- the journal of the reference, if there is one -/
def JK (W : World) (B rb : Nat) (kp : Option Addr) (jr : Option (List ByteArray × Bool)) : Prop := match jr with
  | none => kp = none
  | some (rs, br) => ∃ kb lv, kp = some ⟨kb, 0, none⟩ ∧ RjAt W B kb rb lv rs (RW.stos HH RW.z32 rs).length br
def wl4 (b rb : Nat) (jp kp : Option Addr) : Array Value := #[.pointer (some ⟨b, 0, none⟩), .pointer jp, .pointer (some ⟨rb, 0, none⟩), .pointer kp]
/-- both disks, and the law's row -/
structure MW (B b n db vb rb wb : Nat) (jp kp : Option Addr) (S SR : RW.Dk) (w W : World) : Prop where
  d : ∃ pv, DiskAt W B b n db vb pv S
  r : ∃ sb L pv, RefAt W B rb n sb L pv SR ∧ sb ≠ db ∧ sb ≠ vb
  row : W.heap[wb]? = some (.cells (wl4 b rb jp kp) 32 (0, 0))
  hb : B ≤ wb
  bel : Below B w W
section
variable {W W' w : World} {B b n db vb rb wb : Nat} {jp kp : Option Addr} {S S' SR SR' : RW.Dk} {jo jr : Option (List ByteArray × Bool)}
theorem JC.next (h : JC W B b jp jo) (hB : Below W.heap.size W W') : JC W' B b jp jo := by
  match jo, h with
  | none, h => exact h
  | some (rs, br), h =>
    obtain ⟨jb, rv, h1, h2⟩ := h
    exact ⟨jb, rv, h1, h2.next hB⟩
theorem JK.next (h : JK W B rb kp jr) (hB : Below W.heap.size W W') : JK W' B rb kp jr := by
  match jr, h with
  | none, h => exact h
  | some (rs, br), h =>
    obtain ⟨kb, lv, h1, h2⟩ := h
    exact ⟨kb, lv, h1, h2.next hB⟩
theorem MW.hB (h : MW B b n db vb rb wb jp kp S SR w W) : B ≤ W.heap.size := h.d.elim fun _ h => Nat.le_trans h.hb (Nat.le_of_lt h.lt.1)
theorem MW.next (h : MW B b n db vb rb wb jp kp S SR w W) (hB : Below W.heap.size W W') : MW B b n db vb rb wb jp kp S SR w W' := by
  obtain ⟨pv, h1⟩ := h.d
  obtain ⟨sb, L, pv2, h2, h3, h4⟩ := h.r
  exact ⟨⟨pv, h1.next hB⟩, ⟨sb, L, pv2, h2.next hB, h3, h4⟩, (hB.block _ (Array.getElem?_eq_some_iff.1 h.row).1).trans h.row, h.hb, h.bel.trans (hB.mono h.hB)⟩
/-- the reference's side stays where the program's disk is changed -/
theorem ref_tch {sb : Nat} {L : List UInt8} {pv pv2 : Value} {jb : Nat} (h2 : RefAt W B rb n sb L pv2 SR) (h1 : DiskAt W B b n db vb pv S) (h3 : sb ≠ db) (h4 : sb ≠ vb) (hj : jb = b ∨ ∃ cs fr, W.heap[jb]? = some (.cells cs 85 fr)) (hT : TchJ jb b db vb W W') : RefAt W' B rb n sb L pv2 SR :=
  h2.keep fun k hk hq => by
    have hty : ∃ cs t fr, W.heap[k]? = some (.cells cs t fr) ∧ t ≠ 108 ∧ t ≠ 85 ∧ t ≠ 103 ∧ k ≠ db ∧ k ≠ vb := by
      rcases hq with rfl | rfl | hq
      · exact ⟨_, _, _, h2.row, by decide, by decide, by decide, blocks_ne h2.row h1.dur (by decide), blocks_ne h2.row h1.vis (by decide)⟩
      · exact ⟨_, _, _, h2.sure, by decide, by decide, by decide, h3, h4⟩
      · obtain ⟨c, fr, hc⟩ := h2.pblock hq
        exact ⟨_, _, _, hc, by decide, by decide, by decide, blocks_ne hc h1.dur (by decide), blocks_ne hc h1.vis (by decide)⟩
    obtain ⟨cs, t, fr, hc, t1, t2, t3, n1, n2⟩ := hty
    exact hT.block k hk (by
      rcases hj with rfl | ⟨cs', fr', hj⟩
      · exact blocks_ne hc h1.row t1
      · exact blocks_ne hc hj t2) (blocks_ne hc h1.row t1) n1 n2 (fun cur fr2 e => by rw [hc] at e; injection e with e; injection e with _ e; exact t3 e)
theorem rj_tch {kb e : Nat} {lv pv : Value} {rs : List ByteArray} {br : Bool} {jb : Nat} (h2 : RjAt W B kb rb lv rs e br) (h1 : DiskAt W B b n db vb pv S) (hj : jb = b ∨ ∃ cs fr, W.heap[jb]? = some (.cells cs 85 fr)) (hT : TchJ jb b db vb W W') : RjAt W' B kb rb lv rs e br :=
  h2.keep fun k hk hq => by
    have hty : ∃ cs t fr, W.heap[k]? = some (.cells cs t fr) ∧ t ≠ 108 ∧ t ≠ 85 ∧ t ≠ 103 ∧ k ≠ db ∧ k ≠ vb := by
      rcases hq with rfl | hq
      · exact ⟨_, _, _, h2.row, by decide, by decide, by decide, blocks_ne h2.row h1.dur (by decide), blocks_ne h2.row h1.vis (by decide)⟩
      · obtain ⟨_, _, c, fr, hc⟩ := own_blk h2.own hq
        exact ⟨_, _, _, hc, by decide, by decide, by decide, blocks_ne hc h1.dur (by decide), blocks_ne hc h1.vis (by decide)⟩
    obtain ⟨cs, t, fr, hc, t1, t2, t3, n1, n2⟩ := hty
    exact hT.block k hk (by
      rcases hj with rfl | ⟨cs', fr', hj⟩
      · exact blocks_ne hc h1.row t1
      · exact blocks_ne hc hj t2) (blocks_ne hc h1.row t1) n1 n2 (fun cur fr2 e => by rw [hc] at e; injection e with e; injection e with _ e; exact t3 e)
theorem JK.tch {jb : Nat} {pv : Value} (h : JK W B rb kp jr) (h1 : DiskAt W B b n db vb pv S) (hj : jb = b ∨ ∃ cs fr, W.heap[jb]? = some (.cells cs 85 fr)) (hT : TchJ jb b db vb W W') : JK W' B rb kp jr := by
  match jr, h with
  | none, h => exact h
  | some (rs, br), h =>
    obtain ⟨kb, lv, h2, h3⟩ := h
    exact ⟨kb, lv, h2, rj_tch h3 h1 hj hT⟩
/-- a call on the program's side -/
theorem MW.code {jb : Nat} (h : MW B b n db vb rb wb jp kp S SR w W) (hd : ∃ pv, DiskAt W' B b n db vb pv S') (hj : jb = b ∨ ∃ cs fr, W.heap[jb]? = some (.cells cs 85 fr)) (hT : TchJ jb b db vb W W') (hB : Below B W W') : MW B b n db vb rb wb jp kp S' SR w W' := by
  obtain ⟨pv, h1⟩ := h.d
  obtain ⟨sb, L, pv2, h2, h3, h4⟩ := h.r
  exact ⟨hd, ⟨sb, L, pv2, ref_tch h2 h1 h3 h4 hj hT, h3, h4⟩, (hT.block _ (Array.getElem?_eq_some_iff.1 h.row).1 (by
    rcases hj with rfl | ⟨cs', fr', hj⟩
    · exact blocks_ne h.row h1.row (by decide)
    · exact blocks_ne h.row hj (by decide)) (blocks_ne h.row h1.row (by decide)) (blocks_ne h.row h1.dur (by decide)) (blocks_ne h.row h1.vis (by decide)) (fun cur fr2 e => by rw [h.row] at e; injection e with e; injection e with _ e; exact absurd e (by decide))).trans h.row, h.hb, h.bel.trans hB⟩
/-- the program's side stays where the reference is changed -/
theorem disk_rtch {sb sb' kb : Nat} {L : List UInt8} {pv pv2 : Value} (h1 : DiskAt W B b n db vb pv S) (h2 : RefAt W B rb n sb L pv2 SR) (h3 : sb ≠ db) (h4 : sb ≠ vb) (hk : kb = rb ∨ ∃ cs fr, W.heap[kb]? = some (.cells cs 43 fr)) (hT : RTch kb rb sb W sb' W') : DiskAt W' B b n db vb pv S ∧ sb' ≠ db ∧ sb' ≠ vb := by
  have key : ∀ k : Nat, (∃ cs t fr, W.heap[k]? = some (.cells cs t fr) ∧ t ≠ 67 ∧ t ≠ 43 ∧ t ≠ 111) → k ≠ sb → W'.heap[k]? = W.heap[k]? ∧ k ≠ sb' := by
    rintro k ⟨cs, t, fr, hc, t1, t2, t3⟩ hs
    exact hT.frn k (Array.getElem?_eq_some_iff.1 hc).1 (by
      rcases hk with rfl | ⟨cs', fr', hk⟩
      · exact blocks_ne hc h2.row t1
      · exact blocks_ne hc hk t2) (blocks_ne hc h2.row t1) hs (fun cur fr2 e => by rw [hc] at e; injection e with e; injection e with _ e; exact t3 e)
  have k1 := key db ⟨_, _, _, h1.dur, by decide, by decide, by decide⟩ h3.symm
  have k2 := key vb ⟨_, _, _, h1.vis, by decide, by decide, by decide⟩ h4.symm
  refine ⟨h1.keep fun k hk hq => ?_, k1.2.symm, k2.2.symm⟩
  rcases hq with rfl | rfl | rfl | ⟨cur, fr, hc⟩
  · exact (key k ⟨_, _, _, h1.row, by decide, by decide, by decide⟩ (blocks_ne h1.row h2.sure (by decide))).1
  · exact k1.1
  · exact k2.1
  · exact (key k ⟨_, _, _, hc, by decide, by decide, by decide⟩ (blocks_ne hc h2.sure (by decide))).1
theorem JC.rtch {sb sb' kb : Nat} {L : List UInt8} {pv2 : Value} (h : JC W B b jp jo) (h2 : RefAt W B rb n sb L pv2 SR) (hk : kb = rb ∨ ∃ cs fr, W.heap[kb]? = some (.cells cs 43 fr)) (hT : RTch kb rb sb W sb' W') : JC W' B b jp jo := by
  match jo, h with
  | none, h => exact h
  | some (rs, br), h =>
    obtain ⟨jb, rv, e1, hj⟩ := h
    have key : ∀ k : Nat, (∃ cs t fr, W.heap[k]? = some (.cells cs t fr) ∧ t ≠ 67 ∧ t ≠ 43 ∧ t ≠ 111 ∧ t ≠ 5) → W'.heap[k]? = W.heap[k]? := by
      rintro k ⟨cs, t, fr, hc, t1, t2, t3, t4⟩
      exact (hT.frn k (Array.getElem?_eq_some_iff.1 hc).1 (by
        rcases hk with rfl | ⟨cs', fr', hk⟩
        · exact blocks_ne hc h2.row t1
        · exact blocks_ne hc hk t2) (blocks_ne hc h2.row t1) (blocks_ne hc h2.sure t4) (fun cur fr2 e => by rw [hc] at e; injection e with e; injection e with _ e; exact t3 e)).1
    refine ⟨jb, rv, e1, ⟨(key jb ⟨_, _, _, hj.b, by decide, by decide, by decide, by decide⟩).trans hj.b, own_keep hj.own fun g hg => ?_, hj.hb⟩⟩
    obtain ⟨_, _, c, fr, hc⟩ := own_blk hj.own hg
    exact key g ⟨_, _, _, hc, by decide, by decide, by decide, by decide⟩
/-- a call on the reference's side -/
theorem MW.ref {sb kb : Nat} {L : List UInt8} {pv2 : Value} (h : MW B b n db vb rb wb jp kp S SR w W) (h2 : RefAt W B rb n sb L pv2 SR) (h3 : sb ≠ db) (h4 : sb ≠ vb) (hk : kb = rb ∨ ∃ cs fr, W.heap[kb]? = some (.cells cs 43 fr)) (hr : ∃ sb' L' pv', RefAt W' B rb n sb' L' pv' SR' ∧ RTch kb rb sb W sb' W') (hB : Below B W W') : MW B b n db vb rb wb jp kp S SR' w W' := by
  obtain ⟨pv, h1⟩ := h.d
  obtain ⟨sb', L', pv', g1, g2⟩ := hr
  obtain ⟨g3, g4, g5⟩ := disk_rtch h1 h2 h3 h4 hk g2
  exact ⟨⟨pv, g3⟩, ⟨sb', L', pv', g1, g4, g5⟩, (g2.frn _ (Array.getElem?_eq_some_iff.1 h.row).1 (by
    rcases hk with rfl | ⟨cs', fr', hk⟩
    · exact blocks_ne h.row h2.row (by decide)
    · exact blocks_ne h.row hk (by decide)) (blocks_ne h.row h2.row (by decide)) (blocks_ne h.row h2.sure (by decide)) (fun cur fr2 e => by rw [h.row] at e; injection e with e; injection e with _ e; exact absurd e (by decide))).1.trans h.row, h.hb, h.bel.trans hB⟩
end
end Go.Proofs.YtllbphanfahkkaaGreatDoor

/-
  Package royaltylaw23: the calls on a journal and its reference, as one state; the law's open.
-/
namespace Go.Proofs.YtllbphanfahkkaaGreatDoor
open Go.RowKit RG
/-- blocks of calls stay -/
def OpK (W W' : World) : Prop := ∀ (k : Nat) cs fr, W.heap[k]? = some (.cells cs 62 fr) → W'.heap[k]? = W.heap[k]?
theorem OpK.refl (W : World) : OpK W W := fun _ _ _ _ => rfl
theorem OpK.trans {W W' W'' : World} (h : OpK W W') (g : OpK W' W'') : OpK W W'' := fun k cs fr hc => (g k cs fr ((h k cs fr hc).trans hc)).trans (h k cs fr hc)
theorem OpK.of_below {W W' : World} (h : Below W.heap.size W W') : OpK W W' := fun k _ _ hc => h.block k (Array.getElem?_eq_some_iff.1 hc).1
/-- both disks, both journals, the law's row -/
def MJ (B b n db vb rb wb : Nat) (jp kp : Option Addr) (S SR : RW.Dk) (jo jr : Option (List ByteArray × Bool)) (w W : World) : Prop := MW B b n db vb rb wb jp kp S SR w W ∧ JC W B b jp jo ∧ JK W B rb kp jr
section
variable {W W' w : World} {B b n db vb rb wb p : Nat} {jp kp jp' kp' : Option Addr} {S S' SR SR' : RW.Dk} {jo jr jo' jr' : Option (List ByteArray × Bool)} {rs l : List ByteArray} {br : Bool}
theorem MJ.next (h : MJ B b n db vb rb wb jp kp S SR jo jr w W) (hB : Below W.heap.size W W') : MJ B b n db vb rb wb jp kp S SR jo jr w W' := ⟨h.1.next hB, h.2.1.next hB, h.2.2.next hB⟩
theorem MJ.hB (h : MJ B b n db vb rb wb jp kp S SR jo jr w W) : B ≤ W.heap.size := h.1.hB
theorem JC.tch {pv : Value} (h : JC W B b jp jo) (h1 : DiskAt W B b n db vb pv S) (hT : Tch b db vb W W') : JC W' B b jp jo := by
  match jo, h with
  | none, h => exact h
  | some (rs, br), h =>
    obtain ⟨jb, rv, e, hj⟩ := h
    exact ⟨jb, rv, e, hj.tch h1 hT⟩
theorem opk_tchJ {jb : Nat} {pv : Value} (h1 : DiskAt W B b n db vb pv S) (hj : jb = b ∨ ∃ cs fr, W.heap[jb]? = some (.cells cs 85 fr)) (hT : TchJ jb b db vb W W') : OpK W W' := fun k cs fr hc =>
  hT.block k (Array.getElem?_eq_some_iff.1 hc).1 (by
    rcases hj with rfl | ⟨cs', fr', hj⟩
    · exact blocks_ne hc h1.row (by decide)
    · exact blocks_ne hc hj (by decide)) (blocks_ne hc h1.row (by decide)) (blocks_ne hc h1.dur (by decide)) (blocks_ne hc h1.vis (by decide)) (fun cur fr2 e => by rw [hc] at e; injection e with e; injection e with _ e; exact absurd e (by decide))
theorem opk_rtch {sb sb' kb : Nat} {L : List UInt8} {pv2 : Value} (h2 : RefAt W B rb n sb L pv2 SR) (hk : kb = rb ∨ ∃ cs fr, W.heap[kb]? = some (.cells cs 43 fr)) (hT : RTch kb rb sb W sb' W') : OpK W W' := fun k cs fr hc =>
  (hT.frn k (Array.getElem?_eq_some_iff.1 hc).1 (by
    rcases hk with rfl | ⟨cs', fr', hk⟩
    · exact blocks_ne hc h2.row (by decide)
    · exact blocks_ne hc hk (by decide)) (blocks_ne hc h2.row (by decide)) (blocks_ne hc h2.sure (by decide)) (fun cur fr2 e => by rw [hc] at e; injection e with e; injection e with _ e; exact absurd e (by decide))).1
/-- a call on the program's disk -/
theorem MJ.tch (h : MJ B b n db vb rb wb jp kp S SR jo jr w W) (hd : ∃ pv, DiskAt W' B b n db vb pv S') (hT : Tch b db vb W W') (hB : Below B W W') : MJ B b n db vb rb wb jp kp S' SR jo jr w W' ∧ OpK W W' := by
  obtain ⟨pv, h1⟩ := h.1.d
  exact ⟨⟨h.1.code hd (.inl rfl) (.of_tch hT) hB, h.2.1.tch h1 hT, h.2.2.tch h1 (.inl rfl) (.of_tch hT)⟩, opk_tchJ h1 (.inl rfl) (.of_tch hT)⟩
/-- a call on the reference's disk -/
theorem MJ.rfr {sb : Nat} {L : List UInt8} {pv2 : Value} (h : MJ B b n db vb rb wb jp kp S SR jo jr w W) (h2 : RefAt W B rb n sb L pv2 SR) (h3 : sb ≠ db) (h4 : sb ≠ vb) (hr : ∃ sb' L' pv', RefAt W' B rb n sb' L' pv' SR' ∧ RFr rb sb W sb' W') (hB : Below B W W') : MJ B b n db vb rb wb jp kp S SR' jo jr w W' ∧ OpK W W' := by
  obtain ⟨sb', L', pv', g1, g2⟩ := hr
  refine ⟨⟨h.1.ref h2 h3 h4 (.inl rfl) ⟨sb', L', pv', g1, .of_rfr g2⟩ hB, h.2.1.rtch h2 (.inl rfl) (.of_rfr g2 : RTch rb rb sb W sb' W'), ?_⟩, opk_rtch h2 (.inl rfl) (.of_rfr g2 : RTch rb rb sb W sb' W')⟩
  match jr, h.2.2 with
  | none, hk => exact hk
  | some (rs, br), hk =>
    obtain ⟨kb, lv, e, hk⟩ := hk
    exact ⟨kb, lv, e, hk.rfr h2 g2⟩
theorem MJ.cut_c (h : MJ B b n db vb rb wb jp kp S SR jo jr w W) (k : Int) (hk : k ≤ 9223372036854775807) :
    Calls Tryz.prog 30 #[.pointer (some ⟨b, 0, none⟩), .int .i64 k] W fun e w' => e = .returned (.int .i64 (S.cut k).1) ∧ MJ B b n db vb rb wb jp kp (S.cut k).2 SR jo jr w w' ∧ OpK W w' := by
  obtain ⟨pv, h1⟩ := h.1.d
  refine (cut_any B b n db vb pv S k hk W h1).mono ?_
  rintro e w' ⟨h3, h4, h5, h6⟩
  exact ⟨h3, h.tch ⟨pv, h4⟩ h5 h6⟩
theorem MJ.cut_r (h : MJ B b n db vb rb wb jp kp S SR jo jr w W) (k : Int) (hk : k ≤ 9223372036854775807) :
    Calls Tryz.prog 71 #[.pointer (some ⟨rb, 0, none⟩), .int .i64 k] W fun e w' => e = .returned (.int .i64 (SR.cut k).1) ∧ MJ B b n db vb rb wb jp kp S (SR.cut k).2 jo jr w w' ∧ OpK W w' := by
  obtain ⟨sb, L, pv2, h2, h3, h4⟩ := h.1.r
  refine (rcut_any B rb n sb L pv2 SR k hk W h2).mono ?_
  rintro e w' ⟨g1, g2, g3, g4⟩
  exact ⟨g1, h.rfr h2 h3 h4 ⟨sb, L, pv2, g2, g3⟩ g4⟩
theorem MJ.write_c (h : MJ B b n db vb rb wb jp kp S SR jo jr w W) (o : Int) (s : ByteArray) (hp : S.pend.length < 1000000) (hs : s.size ≤ 9223372036854775807) :
    Calls Tryz.prog 14 #[.pointer (some ⟨b, 0, none⟩), .int .i64 o, .string s] W fun e w' => e = .returned (.int .i64 (S.write n o s).1) ∧ MJ B b n db vb rb wb jp kp (S.write n o s).2 SR jo jr w w' ∧ OpK W w' := by
  obtain ⟨pv, h1⟩ := h.1.d
  refine (write_any B b n db vb pv S o s W h1 hp hs).mono ?_
  rintro e w' ⟨h3, pv', h4, h5, h6⟩
  exact ⟨h3, h.tch ⟨pv', h4⟩ h5 h6⟩
theorem MJ.write_r (h : MJ B b n db vb rb wb jp kp S SR jo jr w W) (o : Int) (s : ByteArray) (ho : -9223372036854775808 ≤ o) (ho2 : o ≤ 9223372036854775807) (hp : SR.pend.length < 1000000) (hs : s.size ≤ 9223372036854775807) :
    Calls Tryz.prog 17 #[.pointer (some ⟨rb, 0, none⟩), .int .i64 o, .string s] W fun e w' => e = .returned (.int .i64 (SR.write n o s).1) ∧ MJ B b n db vb rb wb jp kp S (SR.write n o s).2 jo jr w w' ∧ OpK W w' := by
  obtain ⟨sb, L, pv2, h2, h3, h4⟩ := h.1.r
  refine (rwrite_any B rb n sb L pv2 SR o s ho ho2 hs hp W h2).mono ?_
  rintro e w' ⟨g1, pv', g2, g3, g4⟩
  exact ⟨g1, h.rfr h2 h3 h4 ⟨sb, L, pv', g2, g3⟩ g4⟩
theorem MJ.crash_c (h : MJ B b n db vb rb wb jp kp S SR jo jr w W) (hok : S.ok n) {kv : Value} {keep : List Int} (torn : Int) (hkl : keep.length ≤ 1000000) (hI : IntsB W.heap.size W kv keep) :
    Calls Tryz.prog 31 #[.pointer (some ⟨b, 0, none⟩), kv, .int .i64 torn] W fun e w' => e = .returned (.int .i64 0) ∧ MJ B b n db vb rb wb jp kp (S.crash keep torn) SR jo jr w w' ∧ OpK W w' := by
  obtain ⟨pv, h1⟩ := h.1.d
  refine (crash_any B b n db vb pv S kv keep torn W h1 hok hkl hI).mono ?_
  rintro e w' ⟨h3, pv', h4, h5, h6⟩
  exact ⟨h3, h.tch ⟨pv', h4⟩ h5 h6⟩
theorem MJ.crash_r (h : MJ B b n db vb rb wb jp kp S SR jo jr w W) (hn1 : 1 ≤ n) (hg : RW.Rg n SR p) (hp : p ≤ 900000) {kv : Value} {keep : List Int} (torn : Int) (ht : -9223372036854775808 ≤ torn) (ht2 : torn ≤ 9223372036854775807) (hkl : keep.length ≤ 1000000) (hI : IntR W kv keep) :
    Calls Tryz.prog 72 #[.pointer (some ⟨rb, 0, none⟩), kv, .int .i64 torn] W fun e w' => (∃ v, e = .returned v) ∧ MJ B b n db vb rb wb jp kp S (SR.crash keep torn) jo jr w w' ∧ OpK W w' := by
  obtain ⟨sb, L, pv2, h2, h3, h4⟩ := h.1.r
  have hn := h2.hn
  refine (rcrash_any B rb n sb L pv2 SR hn1 hg.ok (by have := hg.pl; omega) kv keep torn ht ht2 (fun x hx => by have := hg.ok x hx; omega) hkl W hI h2).mono ?_
  rintro e w' ⟨g1, L', pv', g2, g3, g4⟩
  exact ⟨g1, h.rfr h2 h3 h4 ⟨sb, L', pv', g2, g3⟩ g4⟩
theorem Rg.lens (h : MJ B b n db vb rb wb jp kp S SR jo jr w W) (hg : RW.Rg n SR p) : SR.vis.length = n := by
  obtain ⟨sb, L, pv2, h2, _, _⟩ := h.1.r
  rw [← hg.rp]
  exact h2.sized hg.ok
/-- what a journal is behind Open -/
def joOpen (n : Nat) (S : RW.Dk) : Option (List ByteArray × Bool) := (RW.jopen HH n S).2.1.map fun rs => (rs, false)
theorem MJ.open_c {ks : Array Value} {a : Addr} (hks : RW.WsOk ks RW.k0F) (h : MJ B b n db vb rb wb jp kp S SR jo jr w W) (hp : S.pend.length < 900000) (hK : KLaid W ks) (hg : W.cell? ⟨1, 0, none⟩ = some (RW.jeW a)) :
    Calls Tryz.prog 26 #[.pointer (some ⟨b, 0, none⟩)] W fun e w' => ∃ jp', e = .returned (.tuple #[.pointer jp', .int .i64 (RW.jopen HH n S).1]) ∧ (decide ((RW.jopen HH n S).1 ≠ 0) = decide (jp' = none)) ∧ JC w' B b jp' (joOpen n S) ∧ MJ B b n db vb rb wb jp kp (RW.jopen HH n S).2.2 SR jo jr w w' ∧ OpK W w' := by
  obtain ⟨pv, h1⟩ := h.1.d
  refine (Open_any B b n db vb pv S a RW.k0F ks hks W h1 hp hK hg).mono ?_
  rintro e w' ⟨g1, g2, g3, g4⟩
  have hm := h.tch g1 g2 g3
  rcases g4 with ⟨e1, e2, e3⟩ | ⟨rs, jb, rv, e1, e2, _, e3, e4⟩
  · exact ⟨none, e3, by rw [decide_eq_true e2]; rfl, by unfold joOpen; rw [show (RW.jopen HH n S).2.1 = none from e1]; rfl, hm⟩
  · refine ⟨some ⟨jb, 0, none⟩, by rw [show (RW.jopen HH n S).1 = 0 from e1]; exact e3, by rw [show (RW.jopen HH n S).1 = 0 from e1]; rfl, ?_, hm⟩
    unfold joOpen
    rw [show (RW.jopen HH n S).2.1 = some rs from e2]
    exact ⟨jb, rv, rfl, e4.mono (Nat.le_trans h1.hb (Nat.le_of_lt h1.lt.1))⟩
theorem MJ.open_r (h : MJ B b n db vb rb wb jp kp S SR jo jr w W) (hn1 : 1 ≤ n) (hg : RW.Rg n SR p) (hp : p ≤ 900000) :
    Calls Tryz.prog 55 #[.pointer (some ⟨rb, 0, none⟩)] W fun e w' => ∃ kp', e = .returned (.tuple #[.pointer kp', .int .i64 (RW.jopen HH n SR).1]) ∧ JK w' B rb kp' (joOpen n SR) ∧ MJ B b n db vb rb wb jp kp S (RW.jopen HH n SR).2.2 jo jr w w' ∧ OpK W w' ∧ (∀ q qo, JC W B b q qo → JC w' B b q qo) := by
  obtain ⟨sb, L, pv2, h2, h3, h4⟩ := h.1.r
  refine (ropen_any B rb n sb L pv2 SR p hn1 hg hp W h2 (Rg.lens h hg)).mono ?_
  rintro e w' ⟨g1, g2, g3⟩
  have hm0 := h.rfr h2 h3 h4 g1 g2
  obtain ⟨sb', L', pv', _, gF⟩ := g1
  have hm : _ ∧ OpK W w' ∧ (∀ q qo, JC W B b q qo → JC w' B b q qo) := ⟨hm0.1, hm0.2, fun q qo hq => hq.rtch h2 (.inl rfl) (.of_rfr gF : RTch rb rb sb W sb' w')⟩
  rcases g3 with ⟨e1, e2⟩ | ⟨rs, kb, lv, e1, e2, e3, e4⟩
  · exact ⟨none, e2, by unfold joOpen; rw [show (RW.jopen HH n SR).2.1 = none from e1]; rfl, hm⟩
  · refine ⟨some ⟨kb, 0, none⟩, by rw [show (RW.jopen HH n SR).1 = 0 from e1]; exact e3, ?_, hm⟩
    unfold joOpen
    rw [show (RW.jopen HH n SR).2.1 = some rs from e2]
    exact ⟨kb, lv, rfl, e4.mono h.hB⟩
theorem MJ.append_c {ks : Array Value} {jb : Nat} (hks : RW.WsOk ks RW.k0F) (h : MJ B b n db vb rb wb (some ⟨jb, 0, none⟩) kp S SR (some (rs, br)) jr w W) (hp : S.pend.length < 900000) (hfit : (RW.stos HH RW.z32 rs).length ≤ n) {lv : Value} (hl : StrR W lv l) (hll : l.length ≤ 1000) (hK : KLaid W ks) :
    Calls Tryz.prog 11 #[.pointer (some ⟨jb, 0, none⟩), lv] W fun e w' => e = .returned (.int .i64 (RW.japp HH n S rs br l).1) ∧ MJ B b n db vb rb wb (some ⟨jb, 0, none⟩) kp (RW.japp HH n S rs br l).2.2.2 SR (some ((RW.japp HH n S rs br l).2.1, (RW.japp HH n S rs br l).2.2.1)) jr w w' ∧ OpK W w' := by
  obtain ⟨pv, h1⟩ := h.1.d
  obtain ⟨jb', rv, e, h2⟩ := h.2.1
  cases e
  have hj : jb = b ∨ ∃ cs fr, W.heap[jb]? = some (.cells cs 85 fr) := .inr ⟨_, _, h2.b⟩
  refine (Append_any B b n db vb jb pv rv lv S rs l br RW.k0F ks hks W h1 hp h2 hfit hl hll hK).mono ?_
  rintro e w' ⟨h3, ⟨pv', rv', h4, h5⟩, h6, h7⟩
  exact ⟨h3, ⟨h.1.code ⟨pv', h4⟩ hj h6 h7, ⟨jb, rv', rfl, h5⟩, h.2.2.tch h1 hj h6⟩, opk_tchJ h1 hj h6⟩
theorem MJ.append_r {kb M : Nat} (h : MJ B b n db vb rb wb jp (some ⟨kb, 0, none⟩) S SR jo (some (rs, br)) w W) (hn1 : 1 ≤ n) (hg : RW.Rg n SR p) (hp : p ≤ 900000) (hfit : (RW.stos HH RW.z32 rs).length ≤ n) (hlims : ∀ r ∈ rs, r.size ≤ 65536) {vl : Value} (hl : StrsOwn W M vl l) (hll : l.length ≤ 1000) (hls : ∀ r ∈ l, r.size ≤ 65536) :
    Calls Tryz.prog 13 #[.pointer (some ⟨kb, 0, none⟩), vl] W fun e w' => e = .returned (.int .i64 (RW.japp HH n SR rs br l).1) ∧ MJ B b n db vb rb wb jp (some ⟨kb, 0, none⟩) S (RW.japp HH n SR rs br l).2.2.2 jo (some ((RW.japp HH n SR rs br l).2.1, (RW.japp HH n SR rs br l).2.2.1)) w w' ∧ OpK W w' := by
  obtain ⟨sb, L, pv2, h2, h3, h4⟩ := h.1.r
  obtain ⟨kb', lv, e, h5⟩ := h.2.2
  cases e
  have hk : kb = rb ∨ ∃ cs fr, W.heap[kb]? = some (.cells cs 43 fr) := .inr ⟨_, _, h5.row⟩
  refine (rappend_any B kb rb n sb L pv2 lv vl SR p rs l br hn1 hg hp W h2 h5 hfit hlims M hl hll hls).mono ?_
  rintro e w' ⟨g1, ⟨sb', L', pv', lv', g2, g3, g4⟩, g5⟩
  exact ⟨g1, ⟨h.1.ref h2 h3 h4 hk ⟨sb', L', pv', g2, g4⟩ g5, h.2.1.rtch h2 hk g4, ⟨kb, lv', rfl, g3⟩⟩, opk_rtch h2 hk g4⟩
/-- the law's row is written -/
theorem MJ.chgW (h : MJ B b n db vb rb wb jp kp S SR jo jr w W) (hc : Chg wb W W') (hrow : W'.heap[wb]? = some (.cells (wl4 b rb jp' kp') 32 (0, 0))) : MW B b n db vb rb wb jp' kp' S SR w W' ∧ (∀ q qo, JC W B b q qo → JC W' B b q qo) ∧ (∀ q qo, JK W B rb q qo → JK W' B rb q qo) ∧ OpK W W' := by
  obtain ⟨pv, h1⟩ := h.1.d
  obtain ⟨sb, L, pv2, h2, h3, h4⟩ := h.1.r
  have key : ∀ (k : Nat) cs t fr, W.heap[k]? = some (.cells cs t fr) → t ≠ 32 → W'.heap[k]? = W.heap[k]? := fun k cs t fr hk ht => hc.block k (Array.getElem?_eq_some_iff.1 hk).1 (blocks_ne hk h.1.row ht)
  refine ⟨⟨⟨pv, h1.keep fun k hk hq => ?_⟩, ⟨sb, L, pv2, h2.keep fun k hk hq => ?_, h3, h4⟩, hrow, h.1.hb, h.1.bel.trans (hc.below h.1.hb h.hB)⟩, fun q qo hq => ?_, fun q qo hq => ?_, fun k cs fr hk => key k _ _ _ hk (by decide)⟩
  · rcases hq with rfl | rfl | rfl | ⟨cur, fr, hcc⟩
    · exact key _ _ _ _ h1.row (by decide)
    · exact key _ _ _ _ h1.dur (by decide)
    · exact key _ _ _ _ h1.vis (by decide)
    · exact key _ _ _ _ hcc (by decide)
  · rcases hq with rfl | rfl | hq
    · exact key _ _ _ _ h2.row (by decide)
    · exact key _ _ _ _ h2.sure (by decide)
    · obtain ⟨c, fr, hcc⟩ := h2.pblock hq
      exact key _ _ _ _ hcc (by decide)
  · match qo, hq with
    | none, hq => exact hq
    | some (rs, br), hq =>
      obtain ⟨jb, rv, e, hj⟩ := hq
      refine ⟨jb, rv, e, ⟨(key jb _ _ _ hj.b (by decide)).trans hj.b, own_keep hj.own fun g hg => ?_, hj.hb⟩⟩
      obtain ⟨_, _, c, fr, hcc⟩ := own_blk hj.own hg
      exact key g _ _ _ hcc (by decide)
  · match qo, hq with
    | none, hq => exact hq
    | some (rs, br), hq =>
      obtain ⟨kb, lv, e, hj⟩ := hq
      refine ⟨kb, lv, e, hj.keep fun k hk hq => ?_⟩
      rcases hq with rfl | hq
      · exact key _ _ _ _ hj.row (by decide)
      · obtain ⟨_, _, c, fr, hcc⟩ := own_blk hj.own hq
        exact key _ _ _ _ hcc (by decide)
end
end Go.Proofs.YtllbphanfahkkaaGreatDoor

/-
  Package royaltylaw23: open: both journals agree.
-/
namespace Go.Proofs.YtllbphanfahkkaaGreatDoor
open Go.RowKit RG
set_option maxRecDepth 100000 in
set_option maxHeartbeats 4000000 in
theorem wopen_any {B b n db vb rb wb p : Nat} {jp kp : Option Addr} {S : RW.Dk} {jo jr : Option (List ByteArray × Bool)} {w W : World} {ks : Array Value} {a : Addr} (hks : RW.WsOk ks RW.k0F) (h : MJ B b n db vb rb wb jp kp S S jo jr w W) (hn1 : 1 ≤ n) (hg : RW.Rg n S p) (hp : p < 900000)
    (hnx : ∀ W', Below B w W' → KLaid W' ks ∧ W'.cell? ⟨1, 0, none⟩ = some (RW.jeW a)) :
    Calls Tryz.prog 18 #[.pointer (some ⟨wb, 0, none⟩)] W fun e w' => e = .returned (.bool true) ∧ (∃ jp' kp', MJ B b n db vb rb wb jp' kp' (RW.jopen HH n S).2.2 (RW.jopen HH n S).2.2 (joOpen n S) (joOpen n S) w w') ∧ OpK W w' := by
  have hH := hide h
  have hgH := hide hg
  have hnxH := hide hnx
  have hOp := hide (h.open_c hks (by have := hg.pl; omega) (hnx W h.1.bel).1 (hnx W h.1.bel).2)
  have c0 : W.cell? ⟨wb, 0, none⟩ = some (.pointer (some ⟨b, 0, none⟩)) := cellAt h.1.row 0
  obtain ⟨x, hx⟩ : ∃ x, x = (RW.jopen HH n S).1 := ⟨_, rfl⟩
  obtain ⟨S', hS'⟩ : ∃ s, s = (RW.jopen HH n S).2.2 := ⟨_, rfl⟩
  obtain ⟨jo', hjo'⟩ : ∃ j, j = joOpen n S := ⟨_, rfl⟩
  have hOr := hide (fun W' (h' : MJ B b n db vb rb wb jp kp S' S jo jr w W') => h'.open_r hn1 hg (by omega))
  rw [← hx, ← hS', ← hjo'] at hOp
  rw [← hx, ← hS', ← hjo'] at hOr
  rw [← hS', ← hjo']
  clear h hg hnx hx hS' hjo'
  go_enter Tryz.func18, Tryz.ntmps18
  go_upto_region 2 with (go_at_call 26; refine hOp.out.mono ?_; rintro e w2 ⟨jp', rfl, h1, h2, h3, h4⟩; have hdj := hide h1; have hJ2 := hide h2; have hM2 := hide h3; have hO2 := hide h4; clear h1 h2 h3 h4)
  clear hOp c0
  have c2 : w2.cell? ⟨wb, 2, none⟩ = some (.pointer (some ⟨rb, 0, none⟩)) := cellAt hM2.out.1.row 2
  go_upto_region 3 with (go_at_call 55; refine (hOr.out _ hM2.out).mono ?_; rintro e w3 ⟨kp', rfl, h2, h3, h4, h5⟩; have hK3 := hide h2; have hM3 := hide h3; have hO3 := hide h4; have hJ3 := hide (h5 _ _ hJ2.out); clear h2 h3 h4 h5)
  clear hOr c2
  have hOw3 := hide (hO2.out.trans hO3.out)
  have r3 := hide hM3.out.1.row
  have f1 : w3.frozen? ⟨wb, 1, none⟩ = false := unfrozen r3.out
  have c1 : w3.cell? ⟨wb, 1, none⟩ = some (.pointer jp) := cellAt r3.out 1
  have hr4 := hide ((heap_setCell_same _ _ _ _ _ _ r3.out).trans (show some (Obj.cells ((wl4 b rb jp kp).setIfInBounds 1 (.pointer jp')) 32 (0, 0)) = some (.cells (wl4 b rb jp' kp) 32 (0, 0)) from rfl))
  have hc4 := hide ((Chg.refl wb w3).set (i := 1) (.pointer jp'))
  go_upto_region 4 with fail
  refine gen_w (fun W4 => Chg wb w3 W4 ∧ W4.heap[wb]? = some (.cells (wl4 b rb jp' kp) 32 (0, 0))) ⟨hc4.out, hr4.out⟩ ?_
  clear hc4 hr4 f1 c1
  rintro w4 ⟨g1, g2⟩
  have hc4 := hide g1
  have r4 := hide g2
  clear g1 g2
  have f3 : w4.frozen? ⟨wb, 3, none⟩ = false := unfrozen r4.out
  have c3 : w4.cell? ⟨wb, 3, none⟩ = some (.pointer kp) := cellAt r4.out 3
  have hr5 := hide ((heap_setCell_same _ _ _ _ _ _ r4.out).trans (show some (Obj.cells ((wl4 b rb jp' kp).setIfInBounds 3 (.pointer kp')) 32 (0, 0)) = some (.cells (wl4 b rb jp' kp') 32 (0, 0)) from rfl))
  have hc5 := hide (hc4.out.set (i := 3) (.pointer kp'))
  go_upto_region 5 with fail
  refine gen_w (fun W5 => Chg wb w3 W5 ∧ W5.heap[wb]? = some (.cells (wl4 b rb jp' kp') 32 (0, 0))) ⟨hc5.out, hr5.out⟩ ?_
  clear hc5 hr5 f3 c3 hc4 r4
  rintro w5 ⟨g1, g2⟩
  obtain ⟨m1, m2, m3, m4⟩ := hM3.out.chgW g1 g2
  have hfin := hide (show MJ B b n db vb rb wb jp' kp' S' S' jo' jo' w w5 ∧ OpK W w5 from ⟨⟨m1, m2 _ _ hJ3.out, m3 _ _ hK3.out⟩, hOw3.out.trans m4⟩)
  clear g1 g2 m1 m2 m3 m4 hM3 hM2 hJ2 hJ3 hK3 hO2 hO3 r3 hOw3 hH
  have hd := hdj.out
  rcases jp' with _ | q
  · have hx0 : x ≠ 0 := by simpa using hd
    have hxb := hide (show (x != 0) = true by simpa using hx0)
    clear hd
    go_wp2
    go_ret
    exact ⟨by first | rfl | (show Ending.returned (.bool (x != 0)) = _; rw [hxb.out]), ⟨_, _, hfin.out.1⟩, hfin.out.2⟩
  · have hx0 : x = 0 := by simpa using hd
    subst hx0
    clear hd
    go_wp2
    go_ret
    exact ⟨rfl, ⟨_, _, hfin.out.1⟩, hfin.out.2⟩
end Go.Proofs.YtllbphanfahkkaaGreatDoor

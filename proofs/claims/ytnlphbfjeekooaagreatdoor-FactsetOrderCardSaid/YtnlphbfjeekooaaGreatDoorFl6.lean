/-
  Package royaltyref06: Twins: it returns true where two different valid facts have one ID; only new memory is written.
-/
import Derived.Test.YtnlphbfjeekooaaGreatDoorMP
import Derived.Test.YtnlphbfjeekooaaGreatDoorMT
import Derived.Test.YtnlphbfjeekooaaGreatDoorMU
namespace Go.Proofs.YtnlphbfjeekooaaGreatDoor
open Go.RowKit RG
namespace RW
def tw2 (K : Nat → Int) (x y : Fc) : Prop := vdB x = true ∧ vdB y = true ∧ encL x.1 x.2.data.toList ≠ encL y.1 y.2.data.toList ∧ idB K x = idB K y
theorem tw2_symm {K : Nat → Int} {x y : Fc} (h : tw2 K x y) : tw2 K y x := ⟨h.2.1, h.1, fun e => h.2.2.1 e.symm, h.2.2.2.symm⟩
def NoTw (K : Nat → Int) (l : List Fc) (j : Nat) : Prop := ∀ i k x y, i < j → k < i → l[i]? = some x → l[k]? = some y → ¬ tw2 K x y
theorem NoTw.none {K : Nat → Int} {l : List Fc} (h : NoTw K l l.length) : ¬ TwP K l := by
  rintro ⟨x, hx, y, hy, hh⟩
  obtain ⟨i, hi⟩ := List.getElem?_of_mem hx
  obtain ⟨k, hk⟩ := List.getElem?_of_mem hy
  have hil := (List.getElem?_eq_some_iff.1 hi).1
  have hkl := (List.getElem?_eq_some_iff.1 hk).1
  rcases Nat.lt_trichotomy k i with h1 | h1 | h1
  · exact h i k x y hil h1 hi hk hh
  · subst h1
    rw [hi] at hk
    cases hk
    exact hh.2.2.1 rfl
  · exact h k i y x hkl h1 hk hi (tw2_symm hh)
theorem NoTw.step {K : Nat → Int} {l : List Fc} {j : Nat} {x : Fc} (h : NoTw K l j) (hx : l[j]? = some x) (h2 : ∀ k y, k < j → l[k]? = some y → ¬ tw2 K x y) : NoTw K l (j + 1) := by
  intro i k a b hi hk ha hb
  rcases Nat.lt_or_eq_of_le (Nat.le_of_lt_succ hi) with h3 | h3
  · exact h i k a b h3 hk ha hb
  · subst h3
    rw [hx] at ha
    cases ha
    exact h2 k b hk hb
def encX (x : Fc) : ByteArray := ⟨(encL x.1 x.2.data.toList).toArray⟩
theorem encX_list (x : Fc) : (encX x).data.toList = encL x.1 x.2.data.toList := rfl
theorem encX_size (x : Fc) (h : x.2.size ≤ 2100) : (encX x).size ≤ 1099511627776 := by
  have h1 := encL_len x.1 x.2.data.toList
  have h2 := size_list x.2
  have h3 : (encX x).size = (encL x.1 x.2.data.toList).length := by rw [← size_list]; rfl
  omega
end RW
theorem renc_yes {x : RW.Fc} (h : x.2.size ≤ 2100) (hv : RW.vdB x = true) (W : World) : Calls Tryz.prog 59 #[RW.fv x] W fun e w' => e = .returned (.tuple #[.string (RW.encX x), .int .i64 0]) ∧ Below W.heap.size W w' := by
  have := rencode_any x.1 x.2 (by omega) W
  rw [RW.encR_yes _ _ hv] at this
  exact this
theorem renc_no {x : RW.Fc} (h : x.2.size ≤ 2100) (hv : RW.vdB x = false) (W : World) : Calls Tryz.prog 59 #[RW.fv x] W fun e w' => e = .returned (.tuple #[.string ⟨#[]⟩, .int .i64 50]) ∧ Below W.heap.size W w' := by
  have := rencode_any x.1 x.2 (by omega) W
  rw [RW.encR_no _ _ hv] at this
  exact this
theorem rsum_x {x : RW.Fc} (h : x.2.size ≤ 2100) (W : World) : Calls Tryz.prog 60 #[.string (RW.encX x)] W fun e w' => e = .returned (.string (RW.idB RW.k0F x)) ∧ Below W.heap.size W w' := rsum_any (RW.encX x) (RW.encX_size x h) W
attribute [local go_sem ↓] ldRow_fact
set_option maxRecDepth 100000 in
set_option maxHeartbeats 8000000 in
theorem twins_any (v : Value) (l : List RW.Fc) (hl : l.length ≤ 1000000) (hs : RW.Shrt l) (w : World) (hv : FactsV w v l) :
    Calls Tryz.prog 40 #[v] w fun e w' => (∃ b, e = .returned (.bool b) ∧ (RW.TwP RW.k0F l → b = true)) ∧ Below w.heap.size w w' := by
  have hvA := hide hv
  obtain ⟨la, lc, rfl, _, _⟩ := id hv
  obtain ⟨n, hn⟩ : ∃ n, n = l.length := ⟨_, rfl⟩
  have hnH := hide hn
  rw [← hn] at hvA hl ⊢
  obtain ⟨B, hB⟩ : ∃ B, B = w.heap.size := ⟨_, rfl⟩
  have hBH := hide hB
  have hBle := hide (show B ≤ w.heap.size by rw [hB]; exact Nat.le_refl _)
  have hsH := hide hs
  rw [← hB]
  clear hv hn hB hs
  go_enter Tryz.func40, Tryz.ntmps40
  go_wp2
  go_loopw [3, 4, 5, 6, 7, 8] (fun i _ _ _ _ _ wr => ∃ (j : Nat), i = .int .i64 j ∧ j ≤ n ∧ Hid (RW.NoTw RW.k0F l j ∧ Below B w wr)) (fun i _ _ _ _ _ _ => n - (intOf i).toNat)
  case atStart => exact ⟨0, rfl, Nat.zero_le _, fun i k x y h => absurd h (Nat.not_lt_zero _), by rw [hBH.out]; exact Below.refl _ _⟩
  case round =>
    obtain ⟨j, rfl, hj, hQ⟩ := hrel
    obtain ⟨wo, hwo⟩ : ∃ wo, wo = wr := ⟨_, rfl⟩
    subst hwo
    by_cases hjn : j < n
    · obtain ⟨x, hx⟩ : ∃ x, l[j]? = some x := ⟨_, List.getElem?_eq_getElem (by rw [← hnH.out]; exact hjn)⟩
      obtain ⟨g0, o0, c0, e', hcell⟩ := factR_cell (by have h := hvA.out; rw [hnH.out] at h; exact h) hx
      cases e'
      have hld := hcell wo (by rw [← hBH.out]; exact hQ.out.2)
      have hxs := hide (hsH.out x (List.mem_of_getElem? hx))
      have hxH := hide hx
      have hEy := hide (fun W (hv : RW.vdB x = true) => renc_yes hxs.out hv W)
      have hEn := hide (fun W (hv : RW.vdB x = false) => renc_no hxs.out hv W)
      obtain ⟨fx, hfx⟩ : ∃ y, y = RW.fv x := ⟨_, rfl⟩
      rw [← hfx] at hld hEy hEn
      clear hcell hx hfx
      cases hvx : RW.vdB x with
      | false =>
        have hE := hide (fun W => hEn.out W hvx)
        have hNo := hide (hQ.out.1.step hxH.out fun k y _ _ h => by have := h.1; rw [hvx] at this; cases this)
        clear hvx hEy hEn
        go_wp2_with (go_at_call 59; refine (hE.out _).mono ?_; rintro e w1 ⟨rfl, g⟩; have hB1 := hide (bel_cat hQ.out.2 hBle.out g); clear g)
        go_loopw [6, 7, 8] (fun k _ _ wr => k = .int .i64 0 ∧ Hid (Below B w wr)) (fun _ _ _ _ => 0)
        case atStart => exact ⟨rfl, hB1.out⟩
        case round =>
          obtain ⟨rfl, hT⟩ := hrel
          by_cases hj0 : 0 < j
          · have hj0' : (0 : Int) < (j : Int) := by omega
            go_wp2
            go_roundw
            case rel => exact ⟨j + 1, by go_num, by omega, hNo.out, hT.out⟩
            case measure => simp [intOf]; omega
          · have hj0' : ¬ (0 : Int) < (j : Int) := by omega
            go_wp2
            go_roundw
            case rel => exact ⟨j + 1, by go_num, by omega, hNo.out, hT.out⟩
            case measure => simp [intOf]; omega
      | true =>
        have hE := hide (fun W => hEy.out W hvx)
        have hvxH := hide hvx
        obtain ⟨EX, hEX⟩ : ∃ b, b = RW.encX x := ⟨_, rfl⟩
        have hSx := hide (fun W => rsum_x hxs.out W)
        obtain ⟨SX, hSX⟩ : ∃ b, b = RW.idB RW.k0F x := ⟨_, rfl⟩
        rw [← hEX] at hE hSx
        rw [← hSX] at hSx
        have hEXH := hide hEX
        have hSXH := hide hSX
        clear hvx hEy hEn hEX hSX
        go_wp2_with (go_at_call 59; refine (hE.out _).mono ?_; rintro e w1 ⟨rfl, g⟩; have hB1 := hide (bel_cat hQ.out.2 hBle.out g); clear g)
        clear hld
        go_loopw [6, 7, 8] (fun k _ _ wr => ∃ (q : Nat), k = .int .i64 q ∧ q ≤ j ∧ Hid ((∀ k y, k < q → l[k]? = some y → ¬ RW.tw2 RW.k0F x y) ∧ Below B w wr)) (fun k _ _ _ => j - (intOf k).toNat)
        case atStart => exact ⟨0, rfl, Nat.zero_le _, fun k y h => absurd h (Nat.not_lt_zero _), hB1.out⟩
        case round =>
          obtain ⟨q, rfl, hq, hT⟩ := hrel
          obtain ⟨wp, hwp⟩ : ∃ wp, wp = wr := ⟨_, rfl⟩
          subst hwp
          by_cases hqj : q < j
          · obtain ⟨y, hy⟩ : ∃ y, l[q]? = some y := ⟨_, List.getElem?_eq_getElem (by rw [← hnH.out]; omega)⟩
            obtain ⟨g1, o1, c1, e', hcell⟩ := factR_cell (by have h := hvA.out; rw [hnH.out] at h; exact h) hy
            cases e'
            have hld := hcell wp (by rw [← hBH.out]; exact hT.out.2)
            have hys := hide (hsH.out y (List.mem_of_getElem? hy))
            have hyn := hide (fun (h : ¬ RW.tw2 RW.k0F x y) => (show ∀ k z, k < q + 1 → l[k]? = some z → ¬ RW.tw2 RW.k0F x z from fun k z hk hz => by
              rcases Nat.lt_or_eq_of_le (Nat.le_of_lt_succ hk) with h3 | h3
              · exact hT.out.1 k z h3 hz
              · subst h3
                rw [hy] at hz
                cases hz
                exact h))
            have hqn : q < n := by omega
            have hYy := hide (fun W (hv : RW.vdB y = true) => renc_yes hys.out hv W)
            have hYn := hide (fun W (hv : RW.vdB y = false) => renc_no hys.out hv W)
            obtain ⟨fy, hfy⟩ : ∃ z, z = RW.fv y := ⟨_, rfl⟩
            rw [← hfy] at hld hYy hYn
            clear hcell hy hfy
            cases hvy : RW.vdB y with
            | false =>
              have hF := hide (fun W => hYn.out W hvy)
              have hno := hide (hyn.out fun h => by have := h.2.1; rw [hvy] at this; cases this)
              clear hvy hYy hYn hyn
              go_wp2_with (go_at_call 59; refine (hF.out _).mono ?_; rintro e w2 ⟨rfl, g⟩; have hB2 := hide (bel_cat hT.out.2 hBle.out g); clear g)
              go_roundw
              case rel => exact ⟨q + 1, by go_num, by omega, hno.out, hB2.out⟩
              case measure => simp [intOf]; omega
            | true =>
              have hF := hide (fun W => hYy.out W hvy)
              have hSy := hide (fun W => rsum_x hys.out W)
              obtain ⟨EY, hEY⟩ : ∃ b, b = RW.encX y := ⟨_, rfl⟩
              obtain ⟨SY, hSY⟩ : ∃ b, b = RW.idB RW.k0F y := ⟨_, rfl⟩
              rw [← hEY] at hF hSy
              rw [← hSY] at hSy
              by_cases hee : EX = EY
              · have hq1 : (EX.toList == EY.toList) = true := by rw [str_eqF, decide_eq_true hee]
                have hno := hide (hyn.out fun h => h.2.2.1 (by rw [← RW.encX_list, ← RW.encX_list, ← hEXH.out, ← hEY, hee]))
                clear hvy hYy hYn hyn hee hEY hSY
                go_wp2_with (go_at_call 59; refine (hF.out _).mono ?_; rintro e w2 ⟨rfl, g⟩; have hB2 := hide (bel_cat hT.out.2 hBle.out g); clear g)
                go_roundw
                case rel => exact ⟨q + 1, by go_num, by omega, hno.out, hB2.out⟩
                case measure => simp [intOf]; omega
              · have hq1 : (EX.toList == EY.toList) = false := by rw [str_eqF, decide_eq_false hee]
                have tok1 : True := trivial
                by_cases hss : SX = SY
                · have hq2 : (SX.toList == SY.toList) = true := by rw [str_eqF, decide_eq_true hss]
                  clear hvy hYy hYn hyn hee hEY hSY hss
                  go_wp2_with (first
                    | (go_at_call 59; refine (hF.out _).mono ?_; rintro e w2 ⟨rfl, g⟩; have hB2 := hide (bel_cat hT.out.2 hBle.out g); clear g)
                    | (go_at_call 60; have _t := tok1; refine (hSx.out _).mono ?_; rintro e w3 ⟨rfl, g⟩; have hB3 := hide (bel_cat hB2.out hBle.out g); clear g tok1 _t)
                    | (go_at_call 60; refine (hSy.out _).mono ?_; rintro e w4 ⟨rfl, g⟩; have hB4 := hide (bel_cat hB3.out hBle.out g); clear g))
                  go_ret
                  exact ⟨⟨true, rfl, fun _ => rfl⟩, hB4.out⟩
                · have hq2 : (SX.toList == SY.toList) = false := by rw [str_eqF, decide_eq_false hss]
                  have hno := hide (hyn.out fun h => hss (by rw [hSXH.out, hSY]; exact h.2.2.2))
                  clear hvy hYy hYn hyn hee hEY hSY hss
                  go_wp2_with (first
                    | (go_at_call 59; refine (hF.out _).mono ?_; rintro e w2 ⟨rfl, g⟩; have hB2 := hide (bel_cat hT.out.2 hBle.out g); clear g)
                    | (go_at_call 60; have _t := tok1; refine (hSx.out _).mono ?_; rintro e w3 ⟨rfl, g⟩; have hB3 := hide (bel_cat hB2.out hBle.out g); clear g tok1 _t)
                    | (go_at_call 60; refine (hSy.out _).mono ?_; rintro e w4 ⟨rfl, g⟩; have hB4 := hide (bel_cat hB3.out hBle.out g); clear g))
                  go_roundw
                  case rel => exact ⟨q + 1, by go_num, by omega, hno.out, hB4.out⟩
                  case measure => simp [intOf]; omega
          · obtain rfl : q = j := by omega
            have hNo := hide (hQ.out.1.step hxH.out fun k y h1 h2 => hT.out.1 k y h1 h2)
            go_wp2
            go_roundw
            case rel => exact ⟨q + 1, by go_num, by omega, hNo.out, hT.out.2⟩
            case measure => simp [intOf]; omega
    · obtain rfl : n = j := by omega
      have hNo := hide (show ¬ RW.TwP RW.k0F l from RW.NoTw.none (by rw [← hnH.out]; exact hQ.out.1))
      go_wp2
      go_ret
      exact ⟨⟨false, rfl, fun h => absurd h hNo.out⟩, hQ.out.2⟩
end Go.Proofs.YtnlphbfjeekooaaGreatDoor

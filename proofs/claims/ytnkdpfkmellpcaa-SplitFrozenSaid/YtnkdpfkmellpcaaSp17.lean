/-
  Package royaltylaw12: SplitFrozen: it returns true; only new memory is written.
-/
import Derived.Test.YtnkdpfkmellpcaaSp12
import Derived.Test.YtnkdpfkmellpcaaSpP3
namespace Go.Proofs.Ytnkdpfkmellpcaa
open Go.RowKit
abbrev IntsV (W : World) (v : Value) (l : List Int) : Prop := RowV 1 (fun z => [Value.int .i64 z]) W v l
theorem shr_nat (a : Int) (i : Nat) (hi : i < 64) (W : World) : (binOp .shr 3 (.int .i64 a) (.int .i64 i)).run Try.prog W = .ok (.int .i64 (a / 2 ^ i)) W := by
  have h : ¬ (i : Int) < 0 := by omega
  go_simp
theorem below_dr2 {B : Nat} {a w : World} {n : Nat} (h : Below B a w) : Below B a (w.drewN n) := ⟨h.os, h.tape, h.output, h.size, h.block⟩
theorem sh_next_own {W W' : World} {B : Nat} {v : Value} {l : List RW.Pt} (h : OwnP W B v l) (hB : Below W.heap.size W W') : OwnP W' B v l := h.next hB
set_option maxRecDepth 10000 in
set_option maxHeartbeats 8000000 in
theorem splitfrozen_any (v : Value) (l : List Int) (wh : Int) (hb : ∀ x ∈ l, -9223372036854775808 ≤ x ∧ x ≤ 9223372036854775807) (hl : l.length ≤ 9223372036854775807) (hw1 : -9223372036854775808 ≤ wh) (hw2 : wh ≤ 9223372036854775807) (w : World) (hv : IntsV w v l) :
    Calls Try.prog 7 #[v, .int .i64 wh] w fun e w' => e = .returned (.bool true) ∧ Below w.heap.size w w' := by
  obtain ⟨x, hx⟩ : ∃ x : Nat → Int, x = fun k => l.getD k 0 := ⟨_, rfl⟩
  have hxb : ∀ k, -9223372036854775808 ≤ x k ∧ x k ≤ 9223372036854775807 := fun k => by
    rw [hx]
    simp only [List.getD]
    cases hg : l[k]? with
    | none => simp
    | some z => exact hb z (List.mem_of_getElem? hg)
  obtain ⟨a, hae⟩ : ∃ a : Nat → Int, a = fun k => 1 + RW.pickI (x k) 1000000 := ⟨_, rfl⟩
  have ha : ∀ k, 1 ≤ a k ∧ a k ≤ 1000000 := fun k => by
    have := RW.pickI_bd (x k) 1000000 (by decide)
    rw [hae]
    simp only
    omega
  have hP := hide (fun k W => pick_any (x k) 1000000 (hxb k).1 (hxb k).2 (by decide) (by decide) W)
  have hP2 := hide (fun W => pick_any wh 256 hw1 hw2 (by decide) (by decide) W)
  obtain ⟨qw, hqw⟩ : ∃ q, q = RW.pickI wh 256 := ⟨_, rfl⟩
  have hq0 := RW.pickI_bd wh 256 (by decide)
  rw [← hqw] at hP2 hq0
  have hpa := hide (fun k => show 1 + RW.pickI (x k) 1000000 = a k by rw [hae])
  have haH := hide ha
  have hS := hide (sane_any w)
  obtain ⟨ad, cad, rfl, hcl, hat⟩ := hv
  have hatH := hide hat
  have hxH := hide hx
  obtain ⟨N, hN⟩ : ∃ N, N = l.length := ⟨_, rfl⟩
  rw [← hN] at hl hcl ⊢
  have hNH := hide hN
  clear hx hxb hae ha hqw hat hN hb
  obtain ⟨B, hBe⟩ : ∃ B, B = w.heap.size := ⟨_, rfl⟩
  have hBeH := hide hBe
  rw [← hBe] at hS ⊢
  go_enter Try.func7, Try.ntmps7
  clear hBe
  go_upto_region 2 with (go_at_call 11; refine hS.out.mono ?_; rintro e w1 ⟨rfl, hB1⟩; have hB1H := hide hB1; have hz1 := hide (show B ≤ w1.heap.size from hBeH.out ▸ hB1.size); clear hB1)
  clear hS
  obtain ⟨n, hn⟩ : ∃ n, n = min N 8 := ⟨_, rfl⟩
  have hn1 : n ≤ N ∧ n ≤ 8 := by omega
  obtain ⟨hn2, hn3⟩ := hn1
  have hnH := hide hn
  clear hn
  go_wp2
  go_loopw [6, 7] (fun z i wr => ∃ j : Nat, i = .int .i64 j ∧ j ≤ n ∧ Hid (OwnP wr B z (RW.allL a j) ∧ Below B w wr ∧ B ≤ wr.heap.size)) (fun _ i _ => n - (intOf i).toNat)
  case atStart => exact ⟨0, rfl, Nat.zero_le _, World.ownsRow_nil _ _ _ _, hB1H.out, hz1.out⟩
  case round =>
    obtain ⟨j, rfl, hj, hQ⟩ := hrel
    by_cases hlt : j < n
    · have hlt1 : (j : Int) < (N : Int) := by omega
      have hlt2 : (j : Int) < 8 := by omega
      obtain ⟨b, o, rfl, hb, hc⟩ := hatH.out.resolve_left (by rintro rfl; have := hNH.out; simp at this; omega)
      have cx : wr.cell? ⟨b, o + j, none⟩ = some (.int .i64 (x j)) := by
        have hg : l[j]? = some (x j) := by
          rw [hxH.out]
          simp only [List.getD]
          rw [List.getElem?_eq_getElem (by rw [← hNH.out]; omega)]
          rfl
        have h1 := hc j (x j) hg 0 _ rfl
        rw [Nat.mul_one, Nat.add_zero] at h1
        exact (World.cell?_of_block (a := ⟨b, o + j, none⟩) (hQ.out.2.1.block _ (by rw [hBeH.out]; exact hb))).trans h1
      have hpj := hide (fun W => hP.out j W)
      obtain ⟨xj, hxj⟩ : ∃ z, z = x j := ⟨_, rfl⟩
      obtain ⟨pj, hpje⟩ : ∃ z, z = RW.pickI (x j) 1000000 := ⟨_, rfl⟩
      have hpb := RW.pickI_bd (x j) 1000000 (by decide)
      have haj := hpa.out j
      rw [← hxj] at cx hpj
      rw [← hpje] at hpb haj
      rw [show RW.pickI xj 1000000 = pj by rw [hpje, hxj]] at hpj
      have hajH := hide haj
      have hln := hide (show (RW.allL a j).length ≤ 1000000 by rw [(RW.allL_spec haH.out j).2.2.2.1]; omega)
      clear hb hc hxj hpje haj
      go_wp2_with (first
        | (go_at_call 25; refine (hpj.out _).mono ?_; rintro e w' ⟨rfl, rfl⟩)
        | (at_builtin; refine wpList_app_part rfl (.tmp 26) (.tmp 36) rfl rfl hQ.out.1 (10 + (j : Int), 1 + pj) rfl hQ.out.2.2 hln.out ?_; intro z' w4 hO4 hB4; have hO4H := hide hO4; have hB4H := hide hB4; clear hO4 hB4))
      go_roundw
      case rel => exact ⟨j + 1, by go_num, by omega, by rw [RW.allL, ← hajH.out]; exact hO4H.out, hQ.out.2.1.trans hB4H.out, Nat.le_trans hQ.out.2.2 hB4H.out.size⟩
      case measure => simp [intOf]; omega
    · obtain rfl : j = n := by omega
      obtain ⟨wo, hwo⟩ : ∃ wo, wo = wr := ⟨_, rfl⟩
      subst hwo
      have hsp := RW.allL_spec haH.out j
      obtain ⟨az, cz, hzf⟩ := hQ.out.1.form
      rw [hsp.2.2.2.1] at hzf
      subst hzf
      have hOw := hide hQ.out.1
      have hBw := hide hQ.out.2.1
      have hBz := hide hQ.out.2.2
      clear hQ hB1H hz1 hatH hP hxH hNH
      go_upto_region 4 with fail
      go_cut [23] (fun s wx => s = .bool false ∧ wx = wo)
      case first =>
        by_cases hNj : j < N
        · obtain rfl : j = 8 := by have := hnH.out; omega
          go_wp2
          all_goals go_meet
          all_goals exact ⟨by rfl, rfl⟩
        · go_wp2
          all_goals go_meet
          all_goals exact ⟨by rfl, rfl⟩
      case rest =>
      obtain ⟨rfl, hwc⟩ := hcut
      subst hwc
      obtain ⟨R, hRe⟩ : ∃ R, R = RW.resolve (RW.allL a j) := ⟨_, rfl⟩
      have hR := hide (fun W (h : PartsV W (.slice az j cz) (RW.allL a j)) => resolve_any (.slice az j cz) (RW.allL a j) (by rw [hsp.2.2.2.1]; omega) W h)
      rw [← hRe] at hR
      have hRS := hide (show RW.Sound R.1 by rw [hRe]; exact RW.resolve_sound _)
      have hRl := hide (show R.1.length ≤ 1000000 by rw [hRe]; exact Nat.le_trans (RW.resolve_len _) (by rw [hsp.2.2.2.1]; omega))
      have hReH := hide hRe
      have hspH := hide hsp
      clear hRe hsp
      go_upto_region 8 with (first
        | (go_at_call 20; refine (hR.out _ (OwnP.parts hOw.out)).mono ?_; rintro e w5 ⟨⟨v5, rfl, hv5⟩, hB5⟩; have hv5H := hide hv5.parts; have hO5 := hide (sh_next_own hOw.out hB5); have hB5H := hide (hBw.out.trans (hB5.mono hBz.out)); have hz5 := hide (Nat.le_trans hBz.out hB5.size); clear hv5 hB5)
        | (refine wpListStoreNew rfl 32 (.tmp 8) (.tmp 39) rfl (RW.scl v5 R.2.1 R.2.2) rfl rfl 32 _ (shares_size _ _ _) rfl (shares_one _ _ _ hv5H.out.one) ?_))
      obtain ⟨b8, hb8⟩ : ∃ b, b = w5.heap.size := ⟨_, rfl⟩
      have hA5 := (Below.refl w5.heap.size w5).alloc (Nat.le_refl _) (.cells (RW.scl v5 R.2.1 R.2.2) 32)
      refine gen_w (fun W => OwnP W B (.slice az j cz) (RW.allL a j) ∧ Below B w W ∧ B ≤ W.heap.size ∧ ShAt W b8 v5 R) ⟨sh_next_own hO5.out hA5, hB5H.out.alloc hz5.out _, Nat.le_trans hz5.out hA5.size, by rw [hb8]; exact ShAt.new hv5H.out⟩ ?_
      rw [← hb8]
      clear hb8 hA5 hv5H hO5 hB5H hz5 hR hOw hBw hBz
      rintro w6 hS6
      have hS6H := hide hS6
      clear hS6
      go_wp2_with (go_at_call 25; refine (hP2.out _).mono ?_; rintro e w' ⟨rfl, rfl⟩)
      go_loopw [9] (fun i wr => ∃ k : Nat, i = .int .i64 k ∧ k ≤ j ∧ Hid (OwnP wr B (.slice az j cz) (RW.allL a j) ∧ Below B w wr ∧ B ≤ wr.heap.size ∧ ShAt wr b8 v5 R)) (fun i _ => j - (intOf i).toNat)
      case atStart => exact ⟨0, rfl, Nat.zero_le _, hS6H.out⟩
      case round =>
        clear hS6H
        obtain ⟨k, rfl, hkj, hQ⟩ := hrel
        by_cases hlt2 : k < j
        · obtain ⟨wq, hwq⟩ : ∃ wq, wq = wr := ⟨_, rfl⟩
          subst hwq
          obtain ⟨q, hq⟩ : ∃ q : Nat → Bool, q = fun m => decide ((qw / 2 ^ m).tmod 2 = 1) := ⟨_, rfl⟩
          have hqH := hide hq
          clear hq
          go_wp2
          go_loopw [10, 11, 12] (fun z s i wr => ∃ (m : Nat) (so : Int), s = .int .i64 so ∧ i = .int .i64 m ∧ m ≤ j ∧ Hid (so = RW.othS a k m) ∧ Hid (OwnP wr wq.heap.size z (RW.selL a k q m) ∧ Below wq.heap.size wq wr)) (fun _ _ i _ => j - (intOf i).toNat)
          case atStart => exact ⟨0, 0, rfl, rfl, Nat.zero_le _, rfl, World.ownsRow_nil _ _ _ _, Below.refl _ _⟩
          case round =>
            obtain ⟨m, so, rfl, rfl, hmj, hso, hT⟩ := hrel
            have hob := (RW.oth_spec haH.out k m).2
            rw [← hso.out] at hob
            obtain ⟨hob1, hob2⟩ := hob
            by_cases hlt3 : m < j
            · have ham := haH.out m
              have hget := RW.allL_get a j m hlt3
              obtain ⟨b, o, rfl, hb, hc⟩ : ∃ b o, az = some ⟨b, o, none⟩ ∧ b < wq.heap.size ∧ ∀ i x, (RW.allL a j)[i]? = some x → wq.rangeAt b (o + i * 2) (RW.pcl x) := by
                obtain ⟨a', c', he, _, hat⟩ := (OwnP.parts hQ.out.1)
                injection he with e1 e2 e3
                obtain ⟨b, o, hab, hb, hc⟩ := hat.resolve_left (by intro h0; rw [h0] at hget; simp at hget)
                exact ⟨b, o, e1.trans hab, hb, hc⟩
              have hrg : wr.rangeAt b (o + m * 2) (RW.pcl (10 + (m : Int), a m)) := fun i u hu => (World.cell?_of_block (a := ⟨b, o + m * 2 + i, none⟩) (hT.out.2.block _ hb)).trans (hc m _ hget i u hu)
              have c1 : wr.cell? ⟨b, o + m * 2 + 1, none⟩ = some (.int .i64 (a m)) := part_c1 hrg
              have hps := part_size (10 + (m : Int), a m)
              have hpl := pcl_len (10 + (m : Int), a m)
              have hbq := hide hb
              have hln := hide (show (RW.selL a k q m).length ≤ 1000000 by have := (RW.selL_spec haH.out k q m).2.2.2.1; omega)
              have hm8 : m < 8 := by omega
              have hqm := hide (show q m = decide ((qw / 2 ^ m).tmod 2 = 1) by rw [hqH.out])
              clear hb hc hget
              by_cases hmk : m = k
              · subst hmk
                have hsel := hide (show RW.selL a m q (m + 1) = RW.selL a m q m ++ [(10 + (m : Int), a m)] by rw [RW.selL, decide_eq_true rfl, Bool.true_or, if_pos rfl])
                have hoth := hide (show RW.othS a m (m + 1) = so by rw [RW.othS, if_pos rfl, ← hso.out]; omega)
                go_wp2_with (first | (refine wpList_load_mid rfl 39 (.tmp 67) rfl b (o + m * 2) rfl (RW.pcl (10 + (m : Int), a m)) _ hrg Try.underlying39 rfl hps ?_) | (at_builtin; refine wpList_app_part rfl (.tmp 64) (.tmp 69) rfl rfl hT.out.1 (10 + (m : Int), a m) rfl hT.out.2.size hln.out ?_; intro z' w7 hO7 hB7; have hO7H := hide hO7; have hB7H := hide hB7; have c7 : w7.cell? ⟨b, o + m * 2 + 1, none⟩ = some (.int .i64 (a m)) := (World.cell?_of_block (a := ⟨b, o + m * 2 + 1, none⟩) (hB7.block b hbq.out)).trans c1; clear hO7 hB7))
                go_roundw
                case rel => exact ⟨m + 1, so, rfl, by go_num, by omega, hoth.out.symm, by rw [hsel.out]; exact hO7H.out, hT.out.2.trans hB7H.out⟩
                case measure => simp [intOf]; omega
              · have hmk1 : ((m : Int) == (k : Int)) = false := by rw [beq_eq_false_iff_ne]; omega
                have hmk2 : ((m : Int) != (k : Int)) = true := by simp; omega
                have hoth := hide (show RW.othS a k (m + 1) = so + a m by rw [RW.othS, if_neg hmk, ← hso.out])
                obtain ⟨bq, hbqe⟩ : ∃ c, c = q m := ⟨_, rfl⟩
                rw [← hbqe] at hqm
                have hbqeH := hide hbqe
                have hmkH := hide hmk
                clear hbqe hmk
                cases bq
                · have hsel := hide (show RW.selL a k q (m + 1) = RW.selL a k q m by rw [RW.selL, decide_eq_false hmkH.out, ← hbqeH.out]; simp)
                  have hyb : ((qw / 2 ^ m).tmod 2 == 1) = false := by rw [beq_eq_false_iff_ne]; exact of_decide_eq_false hqm.out.symm
                  go_wp2
                  go_roundw
                  case rel => exact ⟨m + 1, so + a m, by go_num, by go_num, by omega, hoth.out.symm, by rw [hsel.out]; exact hT.out.1, hT.out.2⟩
                  case measure => simp [intOf]; omega
                · have hsel := hide (show RW.selL a k q (m + 1) = RW.selL a k q m ++ [(10 + (m : Int), a m)] by rw [RW.selL, ← hbqeH.out, Bool.or_true, if_pos rfl])
                  have hyb : ((qw / 2 ^ m).tmod 2 == 1) = true := by rw [beq_iff_eq]; exact of_decide_eq_true hqm.out.symm
                  go_wp2_with (first | (refine wpList_load_mid rfl 39 (.tmp 67) rfl b (o + m * 2) rfl (RW.pcl (10 + (m : Int), a m)) _ hrg Try.underlying39 rfl hps ?_) | (at_builtin; refine wpList_app_part rfl (.tmp 64) (.tmp 69) rfl rfl hT.out.1 (10 + (m : Int), a m) rfl hT.out.2.size hln.out ?_; intro z' w7 hO7 hB7; have hO7H := hide hO7; have hB7H := hide hB7; have c7 : w7.cell? ⟨b, o + m * 2 + 1, none⟩ = some (.int .i64 (a m)) := (World.cell?_of_block (a := ⟨b, o + m * 2 + 1, none⟩) (hB7.block b hbq.out)).trans c1; clear hO7 hB7))
                  go_roundw
                  case rel => exact ⟨m + 1, so + a m, by go_num, by go_num, by omega, hoth.out.symm, by rw [hsel.out]; exact hO7H.out, hT.out.2.trans hB7H.out⟩
                  case measure => simp [intOf]; omega
            · obtain ⟨m', hm'⟩ : ∃ n, n = j := ⟨_, rfl⟩
              obtain rfl : m = j := by omega
              subst hm'
              obtain ⟨f1, f2⟩ := RW.frozen haH.out k q m' hlt2
              have hsk := RW.selL_spec haH.out k q m'
              obtain ⟨R2, hR2e⟩ : ∃ R, R = RW.resolve (RW.selL a k q m') := ⟨_, rfl⟩
              have hRz := hide (fun W v (h : PartsV W v (RW.selL a k q m')) => resolve_any v (RW.selL a k q m') (by have := hsk.2.2.2.1; omega) W h)
              rw [← hR2e] at hRz f2
              rw [← hReH.out, ← hso.out] at f1
              rw [← hReH.out] at f2
              have hRS2 := hide (show RW.Sound R2.1 by rw [hR2e]; exact RW.resolve_sound _)
              have hRl2 := hide (show R2.1.length ≤ 1000000 by rw [hR2e]; exact Nat.le_trans (RW.resolve_len _) (by have := hsk.2.2.2.1; omega))
              have hget := hide (RW.allL_get a m' k hlt2)
              have hall := hide (sh_next_own hQ.out.1 hT.out.2)
              have hBw := hide (hQ.out.2.1.trans (hT.out.2.mono hQ.out.2.2.1))
              have hBz := hide (Nat.le_trans hQ.out.2.2.1 hT.out.2.size)
              have hsh8 := hide (hQ.out.2.2.2.next hT.out.2)
              have hzz := hide hT.out.1
              have hak := haH.out k
              clear hQ hT hso hR2e hsk
              obtain ⟨mine, hmine⟩ : ∃ z, z = RW.shareOf (10 + (k : Int)) R.1 := ⟨_, rfl⟩
              obtain ⟨other, hother⟩ : ∃ z, z = RW.shareOf (10 + (k : Int)) R2.1 := ⟨_, rfl⟩
              have hs1 := hide (fun W (h : PartsV W v5 R.1) => share_any v5 R.1 (10 + (k : Int)) hRS.out hRl.out W h)
              have hs2 := hide (fun W v (h : PartsV W v R2.1) => share_any v R2.1 (10 + (k : Int)) hRS2.out hRl2.out W h)
              rw [← hmine] at f1 f2 hs1
              rw [← hother] at f2 hs2
              clear hmine hother
              go_upto_region 22 with (first
                | (go_at_call 20; refine (hRz.out _ _ (OwnP.parts hzz.out)).mono ?_; rintro e w7 ⟨⟨v7, rfl, hv7⟩, hB7⟩; have hv7H := hide hv7; have hal7 := hide (sh_next_own hall.out hB7); have hBw7 := hide (hBw.out.trans (hB7.mono hBz.out)); have hBz7 := hide (Nat.le_trans hBz.out hB7.size); have hsh7 := hide (hsh8.out.next hB7); clear hv7 hB7)
                | (refine wpListStoreNew rfl 32 (.tmp 13) (.tmp 82) rfl (RW.scl v7 R2.2.1 R2.2.2) rfl rfl 32 _ (shares_size _ _ _) rfl (shares_one _ _ _ (OwnP.parts hv7H.out).one) ?_))
              obtain ⟨a7, c7, hv7e⟩ := hv7H.out.form
              obtain ⟨n7, hn7⟩ : ∃ n, n = R2.1.length := ⟨_, rfl⟩
              rw [← hn7] at hv7e
              obtain ⟨bd, hbd⟩ : ∃ b, b = w7.heap.size := ⟨_, rfl⟩
              have hA7 := (Below.refl w7.heap.size w7).alloc (Nat.le_refl _) (.cells (RW.scl v7 R2.2.1 R2.2.2) 32)
              refine gen_w (fun W => OwnP W B (.slice az m' cz) (RW.allL a m') ∧ Below B w W ∧ B ≤ W.heap.size ∧ ShAt W b8 v5 R ∧ ShAt W bd v7 R2) ⟨sh_next_own hal7.out hA7, hBw7.out.alloc hBz7.out _, Nat.le_trans hBz7.out hA7.size, hsh7.out.next hA7, by rw [hbd]; exact ShAt.new (OwnP.parts hv7H.out)⟩ ?_
              rw [← hbd]
              clear hbd hA7 hv7H hal7 hBw7 hBz7 hsh7 hall hBw hBz hsh8 hzz hn7
              rintro W ⟨q1, q2, q3, q4, q5⟩
              obtain ⟨a5, c5, hv5e, _⟩ := q4.parts
              obtain ⟨n5, hn5⟩ : ∃ n, n = R.1.length := ⟨_, rfl⟩
              rw [← hn5] at hv5e
              obtain ⟨b, o, hab, hb, hc⟩ : ∃ b o, az = some ⟨b, o, none⟩ ∧ b < W.heap.size ∧ ∀ i x, (RW.allL a m')[i]? = some x → W.rangeAt b (o + i * 2) (RW.pcl x) := by
                obtain ⟨a', c', he, _, hat⟩ := (OwnP.parts q1)
                injection he with e1 e2 e3
                obtain ⟨b, o, hab, hb, hc⟩ := hat.resolve_left (by intro h0; have := hget.out; rw [h0] at this; simp at this)
                exact ⟨b, o, e1.trans hab, hb, hc⟩
              have k0 : W.cell? ⟨b, o + k * 2, none⟩ = some (.int .i64 (10 + (k : Int))) := part_c0 (hc k _ hget.out)
              have k1 : W.cell? ⟨b, o + k * 2 + 1, none⟩ = some (.int .i64 (a k)) := part_c1 (hc k _ hget.out)
              have c8 : W.cell? ⟨b8, 0, none⟩ = some v5 := (cellAt q4.row 0).trans rfl
              have c13 : W.cell? ⟨bd, 0, none⟩ = some v7 := (cellAt q5.row 0).trans rfl
              have hsh1 := hide (fun n => (hs1.out (W.drewN n) (q4.parts.next (below_dr2 (Below.refl _ _)))).mono (R' := fun e w' => e = .returned (.int .i64 mine) ∧ ∃ m, w' = W.drewN m) (by rintro e w' ⟨rfl, rfl⟩; exact ⟨rfl, n, rfl⟩))
              subst hab hv7e hv5e
              have q1H := hide q1
              have q2H := hide q2
              have q3H := hide q3
              have q4H := hide q4
              have q5H := hide q5
              clear hb hc hn5 q1 q2 q3 q4 q5 hs1 hRz
              have hgt : ¬ other < mine := by omega
              have hf1 := hide f1
              clear f1 f2
              have hne : (mine != max 0 (min (a k) (1000000 - so))) = false := by rw [bne_eq_false_iff_eq]; exact hf1.out
              go_quiet (exact hsh1.out _)
              go_upto_region 23 with fail
              have hdr : Below W.heap.size W (W.drewN nq) := below_dr2 (Below.refl _ _)
              refine gen_w (fun Z => OwnP Z B (.slice (some ⟨b, o, none⟩) m' cz) (RW.allL a m') ∧ Below B w Z ∧ B ≤ Z.heap.size ∧ ShAt Z b8 (.slice a5 n5 c5) R ∧ ShAt Z bd (.slice a7 n7 c7) R2) ⟨sh_next_own q1H.out hdr, below_dr2 q2H.out, Nat.le_trans q3H.out hdr.size, q4H.out.next hdr, q5H.out.next hdr⟩ ?_
              clear k0 k1 c8 c13 hdr hsh1 q1H q2H q3H q4H q5H
              rintro Z ⟨q1, q2, q3, q4, q5⟩
              have hc : ∀ i x, (RW.allL a m')[i]? = some x → Z.rangeAt b (o + i * 2) (RW.pcl x) := by
                obtain ⟨a', c', he, _, hat⟩ := (OwnP.parts q1)
                injection he with e1 e2 e3
                obtain ⟨b', o', hab, hb, hc⟩ := hat.resolve_left (by intro h0; have := hget.out; rw [h0] at this; simp at this)
                rw [← e1] at hab
                cases hab
                exact hc
              have k0 : Z.cell? ⟨b, o + k * 2, none⟩ = some (.int .i64 (10 + (k : Int))) := part_c0 (hc k _ hget.out)
              have k1 : Z.cell? ⟨b, o + k * 2 + 1, none⟩ = some (.int .i64 (a k)) := part_c1 (hc k _ hget.out)
              have c13 : Z.cell? ⟨bd, 0, none⟩ = some (.slice a7 n7 c7) := (cellAt q5.row 0).trans rfl
              have hsh2 := hide (fun n => (hs2.out (Z.drewN n) (.slice a7 n7 c7) (q5.parts.next (below_dr2 (Below.refl _ _)))).mono (R' := fun e w' => e = .returned (.int .i64 other) ∧ ∃ m, w' = Z.drewN m) (by rintro e w' ⟨rfl, rfl⟩; exact ⟨rfl, n, rfl⟩))
              have q1H := hide q1
              have q2H := hide q2
              have q3H := hide q3
              have q4H := hide q4
              clear hc q1 q2 q3 q4 q5 hs2
              go_quiet (exact hsh2.out _)
              go_wp2
              have hdr : Below Z.heap.size Z (Z.drewN nq) := below_dr2 (Below.refl _ _)
              exact ⟨⟨k + 1, by go_num, by omega, sh_next_own q1H.out hdr, below_dr2 q2H.out, Nat.le_trans q3H.out hdr.size, q4H.out.next hdr⟩, by simp [intOf]; omega⟩
        · obtain rfl : k = j := by omega
          have hB := hide hQ.out.2.1
          go_wp2
          go_ret
          exact ⟨rfl, hB.out⟩
end Go.Proofs.Ytnkdpfkmellpcaa

/-
  Package royaltylaw06: pick, play; package royaltyref06: SameStrings: what they return; plain laws of plays.
-/
import Derived.Test.YtnlphbfjeekooaaGreatDoorMZ
import Derived.Test.YtnlphbfjeekooaaGreatDoorMF
import Derived.Test.YtnlphbfjeekooaaGreatDoorFsq
namespace Go.Proofs.YtnlphbfjeekooaaGreatDoor
open Go.RowKit RG
namespace RW
def pickI (c n : Int) : Int := (if c < 0 then -(c + 1) else c) % n
theorem pickI_bd (c n : Int) (h : 1 ≤ n) : 0 ≤ pickI c n ∧ pickI c n < n := ⟨Int.emod_nonneg _ (by omega), Int.emod_lt_of_pos _ (by omega)⟩
theorem pickI_nat (n : Nat) (m : Int) (h : (n : Int) < m) : pickI n m = n := by unfold pickI; rw [if_neg (by omega)]; exact Int.emod_eq_of_lt (by omega) h
def playX (n : Nat) : Fc := (playF n, ⟨#[]⟩)
theorem play_kf (n : Nat) : kf (playF n 0).toNat (playF n 12) = [(1, 1, 1000000), (5, 1, 1000000), (6, 1, 1000000), (7, 1, 1000000), (8, 0, 7), (4, 0, 3155759999), (13, 0, 86400000), (16, 0, 1)] := rfl
theorem play_valid (n : Nat) (hn : n ≤ 10000) : validB (playX n).1 (playX n).2.size = true := by
  refine dec_true ⟨by simp [playX, playF], by simp [playX, playF], Nat.zero_le _, ?_⟩
  refine dec_true ⟨?_, .inr rfl, ?_⟩
  · rw [show (playX n).1 = playF n from rfl, play_kf]
    intro x hx
    simp at hx
    rcases hx with rfl | rfl | rfl | rfl | rfl | rfl | rfl | rfl
    all_goals simp [playF]
    all_goals omega
  · rw [show (playX n).1 = playF n from rfl, play_kf]
    intro i hi h0 h2 h
    have h1 := fun x => h x
    simp at h
    unfold playF
    split <;> first | rfl | omega
end RW
theorem pick_any (c n : Int) (hc : -9223372036854775808 ≤ c) (hc2 : c ≤ 9223372036854775807) (h : 1 ≤ n) (hn : n ≤ 9223372036854775807) (w : World) : Calls Tryz.prog 18 #[.int .i64 c, .int .i64 n] w fun e w' => e = .returned (.int .i64 (RW.pickI c n)) ∧ w = w' := by
  by_cases h0 : c < 0
  · have h1 : 0 ≤ -(c + 1) := by omega
    have e : RW.pickI c n = -(c + 1) % n := by unfold RW.pickI; rw [if_pos h0]
    have eH := hide e
    clear e
    go_enter Tryz.func18, Tryz.ntmps18
    go_wp2
    go_ret
    refine ⟨?_, rfl⟩
    rw [eH.out, ← Int.tmod_eq_emod_of_nonneg h1, Int.neg_tmod]
    rfl
  · have e : RW.pickI c n = c % n := by unfold RW.pickI; rw [if_neg h0]
    have eH := hide e
    clear e
    go_enter Tryz.func18, Tryz.ntmps18
    go_wp2
    go_ret
    exact ⟨by rw [eH.out]; rfl, rfl⟩
set_option maxRecDepth 100000 in
set_option maxHeartbeats 1000000 in
theorem play_any (n : Nat) (hn : n ≤ 10000) (w : World) : Calls Tryz.prog 21 #[.int .i64 n] w fun e w' => e = .returned (RW.fv (RW.playX n)) ∧ Below w.heap.size w w' := by
  have hi := fact_infoF (RW.playF n) ⟨#[]⟩
  have h1 := fcells_oneF (RW.playF n) ⟨#[]⟩
  have hcs := hide (show RW.fv (RW.playX n) = .agg (RW.fcells (RW.playF n) ⟨#[]⟩) from rfl)
  have hlit : RW.fcells (RW.playF n) ⟨#[]⟩ = #[.int .i64 1, .int .i64 (1 + (n : Int)), .int .i64 1, .int .i64 0, .int .i64 n, .int .i64 1, .int .i64 1, .int .i64 1, .int .i64 0, .int .i64 0, .int .i64 0, .int .i64 0, .int .i64 0, .int .i64 30000, .int .i64 0, .int .i64 0, .int .i64 0, .string ⟨#[]⟩] := by
    have e : ((n + 1 : Nat) : Int) = 1 + (n : Int) := by omega
    unfold RW.fcells
    simp only [RW.playF, e]
  rw [hcs.out]
  rw [hlit] at hi h1 ⊢
  obtain ⟨cs, hcl⟩ : ∃ cs : Array Value, cs = #[.int .i64 1, .int .i64 (1 + (n : Int)), .int .i64 1, .int .i64 0, .int .i64 n, .int .i64 1, .int .i64 1, .int .i64 1, .int .i64 0, .int .i64 0, .int .i64 0, .int .i64 0, .int .i64 0, .int .i64 30000, .int .i64 0, .int .i64 0, .int .i64 0, .string ⟨#[]⟩] := ⟨_, rfl⟩
  have hclH := hide hcl
  clear hcs hlit hcl
  go_enter Tryz.func21, Tryz.ntmps21
  go_wp2_with (first
    | (go_at_call 18; refine (pick_any n 1000000 (by omega) (by omega) (by decide) (by decide) _).mono ?_; rintro e w1 ⟨rfl, rfl⟩; rw [RW.pickI_nat n 1000000 (by omega)])
    | (refine wpList_store_newF rfl 38 (.tmp 2) (.tmp 8) rfl _ rfl rfl 38 _ hi rfl h1 ?_))
  refine bodyPost_ret (results_cell_row rfl _ _ w.heap.size 38 _ (0, 0) _ rfl (heap_alloc_new _ _) Tryz.underlying38 rfl hi) rfl ⟨rfl, (Below.refl _ _).alloc (Nat.le_refl _) _⟩
set_option maxRecDepth 100000 in
set_option maxHeartbeats 4000000 in
theorem ss_any (v v2 : Value) (l m : List ByteArray) (w : World) (hl : StrR w v l) (hm : StrR w v2 m) (hll : l.length ≤ 9223372036854775807) (hmm : m.length ≤ 9223372036854775807) :
    Calls Tryz.prog 15 #[v, v2] w fun e w' => e = .returned (.bool (decide (l = m))) ∧ Below w.heap.size w w' := by
  have hlA := hide hl
  have hmA := hide hm
  obtain ⟨la, lc, rfl, _, _⟩ := id hl
  obtain ⟨ma, mc, rfl, _, _⟩ := id hm
  obtain ⟨n, hn⟩ : ∃ n, n = l.length := ⟨_, rfl⟩
  obtain ⟨q, hq⟩ : ∃ n, n = m.length := ⟨_, rfl⟩
  have hnH := hide hn
  have hqH := hide hq
  rw [← hn] at hlA hll ⊢
  rw [← hq] at hmA hmm ⊢
  clear hl hm hn hq
  by_cases hnq : n = q
  · subst hnq
    go_enter Tryz.func15, Tryz.ntmps15
    go_wp2
    go_loopw [5] (fun i wr => ∃ (j : Nat), i = .int .i64 j ∧ j ≤ n ∧ Hid (l.take j = m.take j ∧ Below w.heap.size w wr)) (fun i _ => n - (intOf i).toNat)
    case atStart => exact ⟨0, rfl, Nat.zero_le _, ⟨rfl, Below.refl _ _⟩⟩
    case round =>
      obtain ⟨j, rfl, hj, hQ⟩ := hrel
      obtain ⟨wo, hwo⟩ : ∃ wo, wo = wr := ⟨_, rfl⟩
      subst hwo
      by_cases hjn : j < n
      · obtain ⟨r, hr⟩ : ∃ r, l[j]? = some r := ⟨_, List.getElem?_eq_getElem (by rw [← hnH.out]; exact hjn)⟩
        obtain ⟨r2, hr2⟩ : ∃ r, m[j]? = some r := ⟨_, List.getElem?_eq_getElem (by rw [← hqH.out]; exact hjn)⟩
        obtain ⟨g0, o0, lc', e', hcell⟩ := strR_cell (W' := wo) (by have h := hlA.out; rw [hnH.out] at h; exact h) hr
        cases e'
        obtain ⟨g1, o1, mc', e', hcell2⟩ := strR_cell (W' := wo) (by have h := hmA.out; rw [hqH.out] at h; exact h) hr2
        cases e'
        have hcellH := hide hcell
        have hcell2H := hide hcell2
        have htk := hide (show l.take (j + 1) = l.take j ++ [r] ∧ m.take (j + 1) = m.take j ++ [r2] from ⟨RW.take_snocB hr, RW.take_snocB hr2⟩)
        have hne := hide (show r ≠ r2 → decide (l = m) = false from fun h => decide_eq_false (by
          rintro rfl
          rw [hr] at hr2
          cases hr2
          exact h rfl))
        clear hr hr2 hcell hcell2
        go_upto_region 6 with fail
        refine wp_region_k (fun _ W => Below w.heap.size w W) (fun _ => True) [] (.op 0 (.op 1 (.op 2 (.op 3 (.op 4 (.op 5 (.op 6 (.op 7 (.op 8 .nil))))))))) (by kernel_rfl) (by kernel_rfl) (by rfl) (by kernel_rfl) hQ.out.2.drew trivial ?_
        refine k_val (.slice (some ⟨g0, o0, none⟩) n lc) (by apply opN; repeat' (first | apply OpAt.z | apply OpAt.s)) (by rfl) (by rfl) (fun _ W hS => op_mv rfl rfl) ?_
        simp only [Act.put, List.setIfInBounds_toArray, List.set_cons_zero, List.set_cons_succ]
        refine k_val (.int .i64 (j : Int)) (by apply opN; repeat' (first | apply OpAt.z | apply OpAt.s)) (by rfl) (by rfl) (fun _ W hS => op_mv rfl rfl) ?_
        simp only [Act.put, List.setIfInBounds_toArray, List.set_cons_zero, List.set_cons_succ]
        refine k_val (.pointer (some ⟨g0, o0 + j, none⟩)) (by apply opN; repeat' (first | apply OpAt.z | apply OpAt.s)) (by rfl) (by rfl) (fun _ W hS => op_idx_s rfl rfl rfl hjn) ?_
        simp only [Act.put, List.setIfInBounds_toArray, List.set_cons_zero, List.set_cons_succ]
        refine k_val (.string r) (by apply opN; repeat' (first | apply OpAt.z | apply OpAt.s)) (by rfl) (by rfl) (fun _ W hS => op_ld rfl rfl (str_ld (hcellH.out W hS))) ?_
        simp only [Act.put, List.setIfInBounds_toArray, List.set_cons_zero, List.set_cons_succ]
        refine k_val (.slice (some ⟨g1, o1, none⟩) n mc) (by apply opN; repeat' (first | apply OpAt.z | apply OpAt.s)) (by rfl) (by rfl) (fun _ W hS => op_mv rfl rfl) ?_
        simp only [Act.put, List.setIfInBounds_toArray, List.set_cons_zero, List.set_cons_succ]
        refine k_val (.int .i64 (j : Int)) (by apply opN; repeat' (first | apply OpAt.z | apply OpAt.s)) (by rfl) (by rfl) (fun _ W hS => op_mv rfl rfl) ?_
        simp only [Act.put, List.setIfInBounds_toArray, List.set_cons_zero, List.set_cons_succ]
        refine k_val (.pointer (some ⟨g1, o1 + j, none⟩)) (by apply opN; repeat' (first | apply OpAt.z | apply OpAt.s)) (by rfl) (by rfl) (fun _ W hS => op_idx_s rfl rfl rfl hjn) ?_
        simp only [Act.put, List.setIfInBounds_toArray, List.set_cons_zero, List.set_cons_succ]
        refine k_val (.string r2) (by apply opN; repeat' (first | apply OpAt.z | apply OpAt.s)) (by rfl) (by rfl) (fun _ W hS => op_ld rfl rfl (str_ld (hcell2H.out W hS))) ?_
        simp only [Act.put, List.setIfInBounds_toArray, List.set_cons_zero, List.set_cons_succ]
        refine k_val (.bool (!decide (r = r2))) (by apply opN; repeat' (first | apply OpAt.z | apply OpAt.s)) (by rfl) (by rfl) (fun _ W hS => op_neqs rfl rfl rfl rfl) ?_
        simp only [Act.put, List.setIfInBounds_toArray, List.set_cons_zero, List.set_cons_succ]
        refine k_nil ?_
        intro W hCW _
        by_cases hrr : r = r2
        · have hd : (!decide (r = r2)) = false := by rw [decide_eq_true hrr]; rfl
          have hrrH := hide hrr
          have hBH := hide (hCW : Below w.heap.size w W)
          rw [hd]
          clear hrr hd
          go_wp2
          go_roundw
          case rel => exact ⟨j + 1, by go_num, by omega, ⟨by rw [htk.out.1, htk.out.2, hQ.out.1, hrrH.out], hBH.out⟩⟩
          case measure => simp [intOf]; omega
        · have hd : (!decide (r = r2)) = true := by rw [decide_eq_false hrr]; rfl
          have hrrH := hide hrr
          have hBH := hide (hCW : Below w.heap.size w W)
          rw [hd]
          clear hrr hd
          go_wp2
          go_ret
          exact ⟨by rw [hne.out hrrH.out]; rfl, hBH.out⟩
      · obtain rfl : n = j := by omega
        have hQ2 := hide (show decide (l = m) = true ∧ Below w.heap.size w wo from by
          have h := hQ.out
          rw [hnH.out, List.take_length, ← hnH.out, hqH.out, List.take_length] at h
          exact ⟨decide_eq_true h.1, h.2⟩)
        clear hQ
        go_wp2
        go_ret
        exact ⟨by rw [hQ2.out.1]; rfl, hQ2.out.2⟩
  · have hd := hide (show decide (l = m) = false from decide_eq_false fun e => hnq (by rw [hnH.out, hqH.out, e]))
    go_enter Tryz.func15, Tryz.ntmps15
    go_wp2
    go_ret
    exact ⟨by rw [hd.out]; rfl, Below.refl _ _⟩
end Go.Proofs.YtnlphbfjeekooaaGreatDoor

/-
  Package royaltylaw06: sane: it returns true; only new memory is written.
-/
namespace Go.Proofs.YtnlphbfjeekooaaGreatDoor
open Go.RowKit RG
namespace RW
theorem sha_len6 (K : Nat → Int) (l : List UInt8) : (sha K l).length = 32 := by simp [sha, dig]
theorem idB_size (K : Nat → Int) (x : Fc) : (idB K x).size = 32 := by
  show (sha K (encL x.1 x.2.data.toList)).toArray.size = 32
  rw [List.size_toArray, sha_len6]
theorem idB_play (n : Nat) : idB k0F (playX n) = ⟨(sha k0F (encP n)).toArray⟩ := rfl
theorem play_ids {n m : Nat} (hn : n < 64) (hm : m < 64) (h : n ≠ m) : idB k0F (playX n) ≠ idB k0F (playX m) := by
  rw [idB_play, idB_play]
  intro e
  have := checkP_ok 0 (by decide) plays_64 hn hm h
  apply this
  have e2 := congrArg (fun b : ByteArray => b.data.toList) e
  simpa using e2
theorem zero_bad : validB zeroFv.1 zeroFv.2.size = false := by
  refine dec_false (fun h => ?_)
  have := h.1.1
  simp [zeroFv] at this
def cD : Ents := [(idB k0F (playX 2), fv (playX 2))]
def cC : Ents := [(idB k0F (playX 1), fv (playX 1))]
theorem ascE_one (k : ByteArray) (v : Value) : AscE [(k, v)] := by unfold AscE AscB; simp
theorem get_one {k j : ByteArray} {v : Value} (h : j ≠ k) : KM.get j [(k, v)] = none := by rw [KM.get_cons, if_neg h]; rfl
theorem san_gen (i1 i2 : ByteArray) (y1 y2 : Fc) (hne : i2 ≠ i1) (s1 : i1.size = 32) (s2 : i2.size = 32) (k1 : y1.1 0 = 1) (k2 : y2.1 0 = 1) :
    ∃ (ka kb : ByteArray) (ya yb : Fc), uniE [(i2, fv y2)] [(i1, fv y1)] = [(ka, fv ya), (kb, fv yb)] ∧ ya.1 0 = 1 ∧ blt ka kb = true ∧ ka.size = 32 ∧ kb.size = 32 := by
  have e : uniE [(i2, fv y2)] [(i1, fv y1)] = insE i2 (fv y2) [(i1, fv y1)] := updE_new (ascE_one _ _) (get_one hne)
  rw [e]
  unfold insE
  rw [if_neg hne]
  by_cases hb : blt i2 i1 = true
  · rw [if_pos hb]
    exact ⟨_, _, _, _, rfl, k2, hb, s2, s1⟩
  · rw [if_neg hb]
    refine ⟨_, _, _, _, rfl, k1, ?_, s1, s2⟩
    cases h1 : blt i1 i2 with
    | true => rfl
    | false => exact absurd (blt_total (by simpa using hb) h1) hne
theorem san_two : ∃ (ka kb : ByteArray) (ya yb : Fc), uniE cD cC = [(ka, fv ya), (kb, fv yb)] ∧ ya.1 0 = 1 ∧ blt ka kb = true ∧ ka.size = 32 ∧ kb.size = 32 :=
  san_gen _ _ _ _ (play_ids (by decide) (by decide) (by decide)) (idB_size _ _) (idB_size _ _) rfl rfl
def sX : ByteArray := ⟨#[120]⟩
def sA : ByteArray := ⟨#[97]⟩
def sB : ByteArray := ⟨#[98]⟩
theorem miss_two {ka kb : ByteArray} {va vb : Value} (h1 : ka.size = 32) (h2 : kb.size = 32) : missB (fun x => (KM.get x [(ka, va), (kb, vb)]).isSome) [sB, ka, sA, sB] = [sA, sB] := by
  refine asc_uniq (uqB_asc _) ?_ fun x => ?_
  · unfold AscB
    simp only [List.pairwise_cons, List.mem_singleton, List.not_mem_nil, false_implies, implies_true, List.Pairwise.nil, and_true]
    rintro x rfl
    decide
  · rw [mem_missB]
    have hA : sA ≠ ka ∧ sA ≠ kb := ⟨fun e => (by rw [← e] at h1; cases h1), fun e => (by rw [← e] at h2; cases h2)⟩
    have hB : sB ≠ ka ∧ sB ≠ kb := ⟨fun e => (by rw [← e] at h1; cases h1), fun e => (by rw [← e] at h2; cases h2)⟩
    constructor
    · rintro ⟨hx, hp⟩
      simp only [List.mem_cons, List.not_mem_nil, or_false] at hx
      rcases hx with rfl | rfl | rfl | rfl
      · simp
      · rw [KM.get_cons, if_pos rfl] at hp; cases hp
      · simp
      · simp
    · intro hx
      simp only [List.mem_cons, List.not_mem_nil, or_false] at hx
      rcases hx with rfl | rfl
      · exact ⟨by simp, by rw [KM.get_cons, if_neg hA.1, KM.get_cons, if_neg hA.2]; rfl⟩
      · exact ⟨by simp, by rw [KM.get_cons, if_neg hB.1, KM.get_cons, if_neg hB.2]; rfl⟩
end RW
section
variable {ev : Operand → Value} {o : Oper} {x y : Operand} {w : World}
theorem op_noS {p : Bool} (ho : o.op = .unOp .not 4 x) (hx : ev x = .bool p) : (execOp ev o).run Tryz.prog w = .ok (.value (.bool (!p))) w := by
  unfold execOp
  rw [ho]
  simp only [hx]
  go_simp
theorem op_eqn {m : Int} (ho : o.op = .binOp .eql 3 x y 3) (hx : ev x = .int .i64 m) (hy : ev y = .int .i64 m) : (execOp ev o).run Tryz.prog w = .ok (.value (.bool true)) w := by
  unfold execOp
  rw [ho]
  simp only [hx, hy]
  go_simp
theorem op_eqe {m : Int} (ho : o.op = .binOp .eql 34 x y 34) (hx : ev x = .int .i64 m) (hy : ev y = .int .i64 m) : (execOp ev o).run Tryz.prog w = .ok (.value (.bool true)) w := by
  unfold execOp
  rw [ho]
  simp only [hx, hy]
  go_simp
theorem op_eqb {a : ByteArray} (ho : o.op = .binOp .eql 9 x y 9) (hx : ev x = .string a) (hy : ev y = .string a) : (execOp ev o).run Tryz.prog w = .ok (.value (.bool true)) w := by
  unfold execOp
  rw [ho]
  simp only [hx, hy]
  go_simp
theorem op_ltS {a b : ByteArray} {r : Bool} (ho : o.op = .binOp .lss 9 x y 9) (hx : ev x = .string a) (hy : ev y = .string b) (h : RW.blt a b = r) : (execOp ev o).run Tryz.prog w = .ok (.value (.bool r)) w := by
  unfold execOp
  rw [ho]
  simp only [hx, hy]
  unfold RW.blt at h
  subst h
  rw [← ByteArray.toList_eq, ← ByteArray.toList_eq]
  go_simp
end
theorem op_t1 : True := trivial
end Go.Proofs.YtnlphbfjeekooaaGreatDoor

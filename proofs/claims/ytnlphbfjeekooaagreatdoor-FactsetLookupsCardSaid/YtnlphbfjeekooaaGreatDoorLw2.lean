/-
  Package royaltylaw06: sane: it returns true; only new memory is written.
-/
import Derived.Test.YtnlphbfjeekooaaGreatDoorLw1
import Derived.Test.YtnlphbfjeekooaaGreatDoorFsq
namespace Go.Proofs.YtnlphbfjeekooaaGreatDoor
open Go.RowKit RG
namespace RW
theorem sha_len6 (K : Nat → Int) (l : List UInt8) : (sha K l).length = 32 := by simp [sha, dig]
theorem idB_size (K : Nat → Int) (x : Fc) : (idB K x).size = 32 := by
  show (sha K (encL x.1 x.2.data.toList)).toArray.size = 32
  rw [List.size_toArray, sha_len6]
theorem idB_play (n : Nat) : idB k0F (playX n) = ⟨(sha k0F (encP n)).toArray⟩ := rfl
theorem play_ids {n m : Nat} (hn : n < 64) (hm : m < 64) (h : n ≠ m) : idB k0F (playX n) ≠ idB k0F (playX m) := by
  rw [idB_play, idB_play]
  intro e
  have := checkP_ok 0 (by decide) plays_64 hn hm h
  apply this
  have e2 := congrArg (fun b : ByteArray => b.data.toList) e
  simpa using e2
theorem zero_bad : validB zeroFv.1 zeroFv.2.size = false := by
  refine dec_false (fun h => ?_)
  have := h.1.1
  simp [zeroFv] at this
def cD : Ents := [(idB k0F (playX 2), fv (playX 2))]
def cC : Ents := [(idB k0F (playX 1), fv (playX 1))]
theorem ascE_one (k : ByteArray) (v : Value) : AscE [(k, v)] := by unfold AscE AscB; simp
theorem get_one {k j : ByteArray} {v : Value} (h : j ≠ k) : KM.get j [(k, v)] = none := by rw [KM.get_cons, if_neg h]; rfl
theorem san_gen (i1 i2 : ByteArray) (y1 y2 : Fc) (hne : i2 ≠ i1) (s1 : i1.size = 32) (s2 : i2.size = 32) (k1 : y1.1 0 = 1) (k2 : y2.1 0 = 1) :
    ∃ (ka kb : ByteArray) (ya yb : Fc), uniE [(i2, fv y2)] [(i1, fv y1)] = [(ka, fv ya), (kb, fv yb)] ∧ ya.1 0 = 1 ∧ blt ka kb = true ∧ ka.size = 32 ∧ kb.size = 32 := by
  have e : uniE [(i2, fv y2)] [(i1, fv y1)] = insE i2 (fv y2) [(i1, fv y1)] := updE_new (ascE_one _ _) (get_one hne)
  rw [e]
  unfold insE
  rw [if_neg hne]
  by_cases hb : blt i2 i1 = true
  · rw [if_pos hb]
    exact ⟨_, _, _, _, rfl, k2, hb, s2, s1⟩
  · rw [if_neg hb]
    refine ⟨_, _, _, _, rfl, k1, ?_, s1, s2⟩
    cases h1 : blt i1 i2 with
    | true => rfl
    | false => exact absurd (blt_total (by simpa using hb) h1) hne
theorem san_two : ∃ (ka kb : ByteArray) (ya yb : Fc), uniE cD cC = [(ka, fv ya), (kb, fv yb)] ∧ ya.1 0 = 1 ∧ blt ka kb = true ∧ ka.size = 32 ∧ kb.size = 32 :=
  san_gen _ _ _ _ (play_ids (by decide) (by decide) (by decide)) (idB_size _ _) (idB_size _ _) rfl rfl
def sX : ByteArray := ⟨#[120]⟩
def sA : ByteArray := ⟨#[97]⟩
def sB : ByteArray := ⟨#[98]⟩
theorem miss_two {ka kb : ByteArray} {va vb : Value} (h1 : ka.size = 32) (h2 : kb.size = 32) : missB (fun x => (KM.get x [(ka, va), (kb, vb)]).isSome) [sB, ka, sA, sB] = [sA, sB] := by
  refine asc_uniq (uqB_asc _) ?_ fun x => ?_
  · unfold AscB
    simp only [List.pairwise_cons, List.mem_singleton, List.not_mem_nil, false_implies, implies_true, List.Pairwise.nil, and_true]
    rintro x rfl
    decide
  · rw [mem_missB]
    have hA : sA ≠ ka ∧ sA ≠ kb := ⟨fun e => (by rw [← e] at h1; cases h1), fun e => (by rw [← e] at h2; cases h2)⟩
    have hB : sB ≠ ka ∧ sB ≠ kb := ⟨fun e => (by rw [← e] at h1; cases h1), fun e => (by rw [← e] at h2; cases h2)⟩
    constructor
    · rintro ⟨hx, hp⟩
      simp only [List.mem_cons, List.not_mem_nil, or_false] at hx
      rcases hx with rfl | rfl | rfl | rfl
      · simp
      · rw [KM.get_cons, if_pos rfl] at hp; cases hp
      · simp
      · simp
    · intro hx
      simp only [List.mem_cons, List.not_mem_nil, or_false] at hx
      rcases hx with rfl | rfl
      · exact ⟨by simp, by rw [KM.get_cons, if_neg hA.1, KM.get_cons, if_neg hA.2]; rfl⟩
      · exact ⟨by simp, by rw [KM.get_cons, if_neg hB.1, KM.get_cons, if_neg hB.2]; rfl⟩
end RW
section
variable {ev : Operand → Value} {o : Oper} {x y : Operand} {w : World}
theorem op_noS {p : Bool} (ho : o.op = .unOp .not 4 x) (hx : ev x = .bool p) : (execOp ev o).run Tryz.prog w = .ok (.value (.bool (!p))) w := by
  unfold execOp
  rw [ho]
  simp only [hx]
  go_simp
theorem op_eqn {m : Int} (ho : o.op = .binOp .eql 3 x y 3) (hx : ev x = .int .i64 m) (hy : ev y = .int .i64 m) : (execOp ev o).run Tryz.prog w = .ok (.value (.bool true)) w := by
  unfold execOp
  rw [ho]
  simp only [hx, hy]
  go_simp
theorem op_eqe {m : Int} (ho : o.op = .binOp .eql 34 x y 34) (hx : ev x = .int .i64 m) (hy : ev y = .int .i64 m) : (execOp ev o).run Tryz.prog w = .ok (.value (.bool true)) w := by
  unfold execOp
  rw [ho]
  simp only [hx, hy]
  go_simp
theorem op_eqb {a : ByteArray} (ho : o.op = .binOp .eql 9 x y 9) (hx : ev x = .string a) (hy : ev y = .string a) : (execOp ev o).run Tryz.prog w = .ok (.value (.bool true)) w := by
  unfold execOp
  rw [ho]
  simp only [hx, hy]
  go_simp
theorem op_ltS {a b : ByteArray} {r : Bool} (ho : o.op = .binOp .lss 9 x y 9) (hx : ev x = .string a) (hy : ev y = .string b) (h : RW.blt a b = r) : (execOp ev o).run Tryz.prog w = .ok (.value (.bool r)) w := by
  unfold execOp
  rw [ho]
  simp only [hx, hy]
  unfold RW.blt at h
  subst h
  rw [← ByteArray.toList_eq, ← ByteArray.toList_eq]
  go_simp
end
theorem op_t1 : True := trivial
end Go.Proofs.YtnlphbfjeekooaaGreatDoor

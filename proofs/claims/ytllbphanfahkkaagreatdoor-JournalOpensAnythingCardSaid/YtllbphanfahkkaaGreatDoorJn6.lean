/-
  Package journal: first of the calls that write a string and make it durable: what it returns, what it leaves of the disk.
-/
import Derived.Test.YtllbphanfahkkaaGreatDoorMY4
import Derived.Test.YtllbphanfahkkaaGreatDoorJnQ
namespace Go.Proofs.YtllbphanfahkkaaGreatDoor
open Go.RowKit RG
namespace RW
theorem wrsy_pend {n : Nat} {S : Dk} {o : Nat} {s : List UInt8} (h : (wrsy n S o s).1 = 0) : (wrsy n S o s).2.pend = [] := by
  unfold wrsy at h ⊢
  split at h
  · rename_i h1
    exact absurd h h1
  · rename_i h1
    rw [if_neg h1]
    unfold Dk.sync at h ⊢
    split at h
    · exact absurd h (by show ¬ ((221 : Int) = 0); decide)
    · rename_i h2
      rw [if_neg h2]
theorem wrsy_yes {n : Nat} {S : Dk} {o : Nat} {s : List UInt8} (h : (S.write n (o : Int) (strOf s)).1 = 0) : wrsy n S o s = (S.write n (o : Int) (strOf s)).2.sync := by
  unfold wrsy
  rw [if_neg (by rw [h]; simp)]
theorem wrsy_no {n : Nat} {S : Dk} {o : Nat} {s : List UInt8} (h : (S.write n (o : Int) (strOf s)).1 ≠ 0) : wrsy n S o s = S.write n (o : Int) (strOf s) := by
  unfold wrsy
  rw [if_pos h]
theorem write_pend {n : Nat} {S : Dk} {o : Int} {s : ByteArray} : (S.write n o s).2.pend.length ≤ S.pend.length + 1 := by
  unfold Dk.write
  split
  · exact Nat.le_succ _
  · split
    · simp
    · exact Nat.le_succ _
end RW
/-- the closure of writing, the bound method Sync -/
def wcl (p : Nat) : Value := .func (.func 90) #[] #[.pointer (some ⟨p, 0, none⟩), .pointer (some ⟨p + 1, 0, none⟩), .pointer (some ⟨p + 2, 0, none⟩)]
def scl (b : Nat) : Value := .func (.func 47) #[.pointer (some ⟨b, 0, none⟩)] #[]
theorem cf_w1 : ∀ args w, (callFunc 90 args).run Tryz.prog w = .ok (.enter 90 args) w := fun args w => by go_simp
theorem cf_sync : ∀ args w, (callFunc 47 args).run Tryz.prog w = .ok (.enter 47 args) w := fun args w => by go_simp
section
variable {H : List UInt8 → List UInt8} {B b n db vb jb : Nat} {rv : Value} {rs : List ByteArray} {br : Bool} {Fr : World → Prop}
theorem step_w (hFr : ∀ W W' pv S1, DiskAt W B b n db vb pv S1 → Fr W → Tch b db vb W W' → Below B W W' → Fr W') {p o : Nat} {z : List UInt8} (hJ : ∀ W, Fr W → JrAt H W B jb b rv rs br ∧ WrC W p jb (o : Int) (RW.strOf z)) {S : RW.Dk} (hp : S.pend.length < 1000000) (hz : z.length ≤ 4194304) {W : World} {pv : Value} (hd : DiskAt W B b n db vb pv S) (h : Fr W) :
    Calls Tryz.prog 90 (#[] ++ #[.pointer (some ⟨p, 0, none⟩), .pointer (some ⟨p + 1, 0, none⟩), .pointer (some ⟨p + 2, 0, none⟩)]) W fun e W' => e = .returned (.int .i64 (S.write n (o : Int) (RW.strOf z)).1) ∧ ∃ pv', DiskAt W' B b n db vb pv' (S.write n (o : Int) (RW.strOf z)).2 ∧ Fr W' := by
  obtain ⟨h1, h2⟩ := hJ W h
  refine (writing1_any B b n db vb p jb pv rv S rs br (o : Int) (RW.strOf z) W hd h1 h2 hp (by rw [RW.strOf_size]; omega)).mono ?_
  rintro e W' ⟨he, pv', g1, g2, g3⟩
  exact ⟨he, pv', g1, hFr W W' pv S hd h g2 g3⟩
theorem step_s (hFr : ∀ W W' pv S1, DiskAt W B b n db vb pv S1 → Fr W → Tch b db vb W W' → Below B W W' → Fr W') {S : RW.Dk} {W : World} {pv : Value} (hd : DiskAt W B b n db vb pv S) (h : Fr W) :
    Calls Tryz.prog 47 (#[.pointer (some ⟨b, 0, none⟩)] ++ #[]) W fun e W' => e = .returned (.int .i64 S.sync.1) ∧ ∃ pv', DiskAt W' B b n db vb pv' S.sync.2 ∧ Fr W' := by
  refine (sync_any B b n db vb pv S W hd).mono ?_
  rintro e W' ⟨he, pv', g1, g2, g3⟩
  exact ⟨he, pv', g1, hFr W W' pv S hd h g2 g3⟩
/-- one string, made durable -/
theorem first2 (hFr : ∀ W W' pv S1, DiskAt W B b n db vb pv S1 → Fr W → Tch b db vb W W' → Below B W W' → Fr W') {p o g : Nat} {z : List UInt8} (hJ : ∀ W, Fr W → JrAt H W B jb b rv rs br ∧ WrC W p jb (o : Int) (RW.strOf z)) (hg : ∀ W, Fr W → W.heap[g]? = some (.cells #[wcl p, scl b] 96 (0, 0))) {S : RW.Dk} (hp : S.pend.length < 900000) (hz : z.length ≤ 4194304) {w : World} {pv : Value} (hd : DiskAt w B b n db vb pv S) (h : Fr w) :
    Calls Tryz.prog 45 #[.slice (some ⟨g, 0, none⟩) 2 2] w fun e w' => e = .returned (.int .i64 (RW.wrsy n S o z).1) ∧ ∃ pv', DiskAt w' B b n db vb pv' (RW.wrsy n S o z).2 ∧ Fr w' := by
  have hI : ∃ I : Nat → World → Prop, I = fun j W => Fr W ∧ ((j = 0 ∧ ∃ pv', DiskAt W B b n db vb pv' S) ∨ (j = 1 ∧ (S.write n (o : Int) (RW.strOf z)).1 = 0 ∧ ∃ pv', DiskAt W B b n db vb pv' (S.write n (o : Int) (RW.strOf z)).2) ∨ (j = 2 ∧ (RW.wrsy n S o z).1 = 0 ∧ ∃ pv', DiskAt W B b n db vb pv' (RW.wrsy n S o z).2)) := ⟨_, rfl⟩
  obtain ⟨I, hI⟩ := hI
  refine (first_any [wcl p, scl b] (by show 2 ≤ 100; decide) g I (fun e W => Fr W ∧ e = (RW.wrsy n S o z).1 ∧ ∃ pv', DiskAt W B b n db vb pv' (RW.wrsy n S o z).2) (fun j W hi => hg W (by rw [hI] at hi; exact hi.1)) ?_ w (by rw [hI]; exact ⟨h, .inl ⟨rfl, pv, hd⟩⟩)).mono ?_
  · intro j f hf
    rcases j with _ | _ | j
    · cases hf
      refine ⟨_, _, _, rfl, cf_w1, fun W hi => ?_⟩
      rw [hI] at hi
      obtain ⟨hi1, hi2⟩ := hi
      obtain ⟨pv1, hd1⟩ : ∃ pv', DiskAt W B b n db vb pv' S := by
        rcases hi2 with ⟨_, h1⟩ | ⟨h1, _⟩ | ⟨h1, _⟩
        · exact h1
        · cases h1
        · cases h1
      refine (step_w hFr hJ (by omega) hz hd1 hi1).mono ?_
      rintro e W' ⟨rfl, pv', g1, g2⟩
      refine ⟨_, rfl, ?_⟩
      by_cases h0 : (S.write n (o : Int) (RW.strOf z)).1 = 0
      · exact .inr ⟨h0, by rw [hI]; exact ⟨g2, .inr (.inl ⟨rfl, h0, pv', g1⟩)⟩⟩
      · exact .inl ⟨h0, g2, by rw [RW.wrsy_no h0], pv', by rw [RW.wrsy_no h0]; exact g1⟩
    · cases hf
      refine ⟨_, _, _, rfl, cf_sync, fun W hi => ?_⟩
      rw [hI] at hi
      obtain ⟨hi1, hi2⟩ := hi
      obtain ⟨h0, pv1, hd1⟩ : (S.write n (o : Int) (RW.strOf z)).1 = 0 ∧ ∃ pv', DiskAt W B b n db vb pv' (S.write n (o : Int) (RW.strOf z)).2 := by
        rcases hi2 with ⟨h1, _⟩ | ⟨_, h1⟩ | ⟨h1, _⟩
        · cases h1
        · exact h1
        · cases h1
      refine (step_s hFr hd1 hi1).mono ?_
      rintro e W' ⟨rfl, pv', g1, g2⟩
      refine ⟨_, rfl, ?_⟩
      rw [← RW.wrsy_yes h0] at g1 ⊢
      by_cases h2 : (RW.wrsy n S o z).1 = 0
      · exact .inr ⟨h2, by rw [hI]; exact ⟨g2, .inr (.inr ⟨rfl, h2, pv', g1⟩)⟩⟩
      · exact .inl ⟨h2, g2, rfl, pv', g1⟩
    · simp at hf
  · rintro e w' (⟨m, rfl, _, h2, h3, h4⟩ | ⟨rfl, hi⟩)
    · exact ⟨by rw [h3], h4.elim fun q hq => ⟨q, hq, h2⟩⟩
    · rw [hI] at hi
      obtain ⟨hi1, hi2⟩ := hi
      rcases hi2 with ⟨h1, _⟩ | ⟨h1, _⟩ | ⟨_, h1, pv', h2⟩
      · cases h1
      · cases h1
      · exact ⟨by rw [h1], pv', h2, hi1⟩
/-- a string, then another one -/
theorem first4 (hFr : ∀ W W' pv S1, DiskAt W B b n db vb pv S1 → Fr W → Tch b db vb W W' → Below B W W' → Fr W') {p o p2 o2 g : Nat} {z z2 : List UInt8} (hJ : ∀ W, Fr W → JrAt H W B jb b rv rs br ∧ WrC W p jb (o : Int) (RW.strOf z)) (hJ2 : ∀ W, Fr W → JrAt H W B jb b rv rs br ∧ WrC W p2 jb (o2 : Int) (RW.strOf z2)) (hg : ∀ W, Fr W → W.heap[g]? = some (.cells #[wcl p, scl b, wcl p2, scl b] 96 (0, 0))) {S : RW.Dk} (hp : S.pend.length < 900000) (hz : z.length ≤ 4194304) (hz2 : z2.length ≤ 4194304) {w : World} {pv : Value} (hd : DiskAt w B b n db vb pv S) (h : Fr w) :
    Calls Tryz.prog 45 #[.slice (some ⟨g, 0, none⟩) 4 4] w fun e w' => ∃ R : Int × RW.Dk, R = (if (RW.wrsy n S o z).1 ≠ 0 then RW.wrsy n S o z else RW.wrsy n (RW.wrsy n S o z).2 o2 z2) ∧ e = .returned (.int .i64 R.1) ∧ ∃ pv', DiskAt w' B b n db vb pv' R.2 ∧ Fr w' := by
  obtain ⟨R, hR⟩ : ∃ R : Int × RW.Dk, R = (if (RW.wrsy n S o z).1 ≠ 0 then RW.wrsy n S o z else RW.wrsy n (RW.wrsy n S o z).2 o2 z2) := ⟨_, rfl⟩
  obtain ⟨S2, hS2⟩ : ∃ S2, S2 = (RW.wrsy n S o z).2 := ⟨_, rfl⟩
  have hRn : (RW.wrsy n S o z).1 ≠ 0 → R = RW.wrsy n S o z := fun h => by rw [hR, if_pos h]
  have hRy : (RW.wrsy n S o z).1 = 0 → R = RW.wrsy n S2 o2 z2 := fun h => by rw [hR, if_neg (by rw [h]; simp), hS2]
  have hI : ∃ I : Nat → World → Prop, I = fun j W => Fr W ∧ ((j = 0 ∧ ∃ pv', DiskAt W B b n db vb pv' S) ∨ (j = 1 ∧ (S.write n (o : Int) (RW.strOf z)).1 = 0 ∧ ∃ pv', DiskAt W B b n db vb pv' (S.write n (o : Int) (RW.strOf z)).2) ∨ (j = 2 ∧ (RW.wrsy n S o z).1 = 0 ∧ ∃ pv', DiskAt W B b n db vb pv' S2) ∨
      (j = 3 ∧ (RW.wrsy n S o z).1 = 0 ∧ (S2.write n (o2 : Int) (RW.strOf z2)).1 = 0 ∧ ∃ pv', DiskAt W B b n db vb pv' (S2.write n (o2 : Int) (RW.strOf z2)).2) ∨ (j = 4 ∧ R.1 = 0 ∧ ∃ pv', DiskAt W B b n db vb pv' R.2)) := ⟨_, rfl⟩
  obtain ⟨I, hI⟩ := hI
  refine (first_any [wcl p, scl b, wcl p2, scl b] (by show 4 ≤ 100; decide) g I (fun e W => Fr W ∧ e = R.1 ∧ ∃ pv', DiskAt W B b n db vb pv' R.2) (fun j W hi => hg W (by rw [hI] at hi; exact hi.1)) ?_ w (by rw [hI]; exact ⟨h, .inl ⟨rfl, pv, hd⟩⟩)).mono ?_
  · intro j f hf
    rcases j with _ | _ | _ | _ | j
    · cases hf
      refine ⟨_, _, _, rfl, cf_w1, fun W hi => ?_⟩
      rw [hI] at hi
      obtain ⟨hi1, hi2⟩ := hi
      obtain ⟨pv1, hd1⟩ : ∃ pv', DiskAt W B b n db vb pv' S := by
        rcases hi2 with ⟨_, h1⟩ | ⟨h1, _⟩ | ⟨h1, _⟩ | ⟨h1, _⟩ | ⟨h1, _⟩
        · exact h1
        all_goals cases h1
      refine (step_w hFr hJ (by omega) hz hd1 hi1).mono ?_
      rintro e W' ⟨rfl, pv', g1, g2⟩
      refine ⟨_, rfl, ?_⟩
      by_cases h0 : (S.write n (o : Int) (RW.strOf z)).1 = 0
      · exact .inr ⟨h0, by rw [hI]; exact ⟨g2, .inr (.inl ⟨rfl, h0, pv', g1⟩)⟩⟩
      · have h3 : (RW.wrsy n S o z).1 ≠ 0 := by rw [RW.wrsy_no h0]; exact h0
        exact .inl ⟨h0, g2, by rw [hRn h3, RW.wrsy_no h0], pv', by rw [hRn h3, RW.wrsy_no h0]; exact g1⟩
    · cases hf
      refine ⟨_, _, _, rfl, cf_sync, fun W hi => ?_⟩
      rw [hI] at hi
      obtain ⟨hi1, hi2⟩ := hi
      obtain ⟨h0, pv1, hd1⟩ : (S.write n (o : Int) (RW.strOf z)).1 = 0 ∧ ∃ pv', DiskAt W B b n db vb pv' (S.write n (o : Int) (RW.strOf z)).2 := by
        rcases hi2 with ⟨h1, _⟩ | ⟨_, h1⟩ | ⟨h1, _⟩ | ⟨h1, _⟩ | ⟨h1, _⟩
        · cases h1
        · exact h1
        all_goals cases h1
      refine (step_s hFr hd1 hi1).mono ?_
      rintro e W' ⟨rfl, pv', g1, g2⟩
      refine ⟨_, rfl, ?_⟩
      rw [← RW.wrsy_yes h0] at g1 ⊢
      by_cases h2 : (RW.wrsy n S o z).1 = 0
      · exact .inr ⟨h2, by rw [hI]; exact ⟨g2, .inr (.inr (.inl ⟨rfl, h2, pv', by rw [hS2]; exact g1⟩))⟩⟩
      · exact .inl ⟨h2, g2, by rw [hRn h2], pv', by rw [hRn h2]; exact g1⟩
    · cases hf
      refine ⟨_, _, _, rfl, cf_w1, fun W hi => ?_⟩
      rw [hI] at hi
      obtain ⟨hi1, hi2⟩ := hi
      obtain ⟨h0, pv1, hd1⟩ : (RW.wrsy n S o z).1 = 0 ∧ ∃ pv', DiskAt W B b n db vb pv' S2 := by
        rcases hi2 with ⟨h1, _⟩ | ⟨h1, _⟩ | ⟨_, h1⟩ | ⟨h1, _⟩ | ⟨h1, _⟩
        · cases h1
        · cases h1
        · exact h1
        all_goals cases h1
      refine (step_w hFr hJ2 (by rw [hS2, RW.wrsy_pend h0]; decide) hz2 hd1 hi1).mono ?_
      rintro e W' ⟨rfl, pv', g1, g2⟩
      refine ⟨_, rfl, ?_⟩
      by_cases h2 : (S2.write n (o2 : Int) (RW.strOf z2)).1 = 0
      · exact .inr ⟨h2, by rw [hI]; exact ⟨g2, .inr (.inr (.inr (.inl ⟨rfl, h0, h2, pv', g1⟩)))⟩⟩
      · exact .inl ⟨h2, g2, by rw [hRy h0, RW.wrsy_no h2], pv', by rw [hRy h0, RW.wrsy_no h2]; exact g1⟩
    · cases hf
      refine ⟨_, _, _, rfl, cf_sync, fun W hi => ?_⟩
      rw [hI] at hi
      obtain ⟨hi1, hi2⟩ := hi
      obtain ⟨h0, h2, pv1, hd1⟩ : (RW.wrsy n S o z).1 = 0 ∧ (S2.write n (o2 : Int) (RW.strOf z2)).1 = 0 ∧ ∃ pv', DiskAt W B b n db vb pv' (S2.write n (o2 : Int) (RW.strOf z2)).2 := by
        rcases hi2 with ⟨h1, _⟩ | ⟨h1, _⟩ | ⟨h1, _⟩ | ⟨_, h1⟩ | ⟨h1, _⟩
        · cases h1
        · cases h1
        · cases h1
        · exact h1
        · cases h1
      refine (step_s hFr hd1 hi1).mono ?_
      rintro e W' ⟨rfl, pv', g1, g2⟩
      refine ⟨_, rfl, ?_⟩
      rw [← RW.wrsy_yes h2] at g1 ⊢
      by_cases h3 : (RW.wrsy n S2 o2 z2).1 = 0
      · exact .inr ⟨h3, by rw [hI]; exact ⟨g2, .inr (.inr (.inr (.inr ⟨rfl, by rw [hRy h0]; exact h3, pv', by rw [hRy h0]; exact g1⟩)))⟩⟩
      · exact .inl ⟨h3, g2, by rw [hRy h0], pv', by rw [hRy h0]; exact g1⟩
    · simp at hf
  · rintro e w' (⟨m, rfl, _, h2, h3, h4⟩ | ⟨rfl, hi⟩)
    · exact ⟨R, hR, by rw [h3], h4.elim fun q hq => ⟨q, hq, h2⟩⟩
    · rw [hI] at hi
      obtain ⟨hi1, hi2⟩ := hi
      rcases hi2 with ⟨h1, _⟩ | ⟨h1, _⟩ | ⟨h1, _⟩ | ⟨h1, _⟩ | ⟨_, h1, pv', h2⟩
      · cases h1
      · cases h1
      · cases h1
      · cases h1
      · exact ⟨R, hR, by rw [h1], pv', h2, hi1⟩
end
end Go.Proofs.YtllbphanfahkkaaGreatDoor

/-
  The reference's disk under a journal, plain: what each call keeps: no program in sight.
-/
import Derived.Test.YtllbphanfahkkaaGreatDoorRk4
import Derived.Test.YtllbphanfahkkaaGreatDoorJnV
namespace Go.Proofs.YtllbphanfahkkaaGreatDoor.RW
open Go Go.RowKit
/-- a disk whose visible content is what its writes make of its durable one -/
structure Rg (n : Nat) (S : Dk) (p : Nat) : Prop where
  ok : S.ok n
  rp : replay S.pend S.dur = S.vis
  pl : S.pend.length ≤ p
theorem Rg.mono {n : Nat} {S : Dk} {p q : Nat} (h : Rg n S p) (hp : p ≤ q) : Rg n S q := ⟨h.ok, h.rp, Nat.le_trans h.pl hp⟩
theorem Rg.write {n : Nat} {S : Dk} {p : Nat} (h : Rg n S p) (o : Int) (s : ByteArray) : Rg n (S.write n o s).2 (p + 1) := by
  unfold Dk.write
  split
  · exact h.mono (Nat.le_succ _)
  · split
    · rename_i hi
      obtain ⟨h1, h2, h3, h4⟩ := (insB_iff _ _ _).1 hi
      refine ⟨fun x hx => ?_, ?_, ?_⟩
      · rcases List.mem_append.1 hx with hx | hx
        · exact h.ok x hx
        · rcases List.mem_singleton.1 hx with rfl
          show o.toNat + s.size ≤ n
          omega
      · show replay (S.pend ++ [(o.toNat, s)]) S.dur = lay S.vis o.toNat s.data.toList
        rw [replay_snoc, h.rp]
      · show (S.pend ++ [(o.toNat, s)]).length ≤ p + 1
        rw [List.length_append]
        exact Nat.succ_le_succ h.pl
    · exact h.mono (Nat.le_succ _)
theorem Rg.sync {n : Nat} {S : Dk} {p : Nat} (h : Rg n S p) : Rg n S.sync.2 p := by
  unfold Dk.sync
  split
  · exact h
  · exact ⟨fun x hx => (by cases hx), rfl, Nat.zero_le _⟩
theorem Rg.cut {n : Nat} {S : Dk} {p : Nat} (h : Rg n S p) (k : Int) : Rg n (S.cut k).2 p := by
  unfold Dk.cut
  split
  · exact h
  · split
    · exact h
    · exact ⟨h.ok, h.rp, h.pl⟩
theorem Rg.crash {n : Nat} {S : Dk} (keep : List Int) (torn : Int) (p : Nat) : Rg n (S.crash keep torn) p := by
  rw [crash_eq]
  exact ⟨fun x hx => (by cases hx), rfl, Nat.zero_le _⟩
theorem Rg.wrsy {n : Nat} {S : Dk} {p : Nat} (h : Rg n S p) (o : Nat) (s : List UInt8) : Rg n (wrsy n S o s).2 (p + 1) := by
  unfold RW.wrsy
  split
  · exact h.write _ _
  · exact (h.write _ _).sync
theorem Rg.open {H : List UInt8 → List UInt8} {n : Nat} {S : Dk} {p : Nat} (h : Rg n S p) : Rg n (jopen H n S).2.2 (p + 1) := by
  unfold jopen
  split
  · exact h.mono (Nat.le_succ _)
  · split
    · exact h.mono (Nat.le_succ _)
    · split
      · exact h.mono (Nat.le_succ _)
      · split
        · exact h.write _ _
        · split
          · exact (h.write _ _).sync
          · exact (h.write _ _).sync
theorem Rg.app {H : List UInt8 → List UInt8} {n : Nat} {S : Dk} {p : Nat} (h : Rg n S p) (rs : List ByteArray) (br : Bool) (l : List ByteArray) : Rg n (japp H n S rs br l).2.2.2 (p + 2) := by
  unfold japp
  split
  · exact h.mono (by omega)
  · split
    · exact h.mono (by omega)
    · split
      · exact h.mono (by omega)
      · split
        · exact (h.wrsy _ _).mono (by omega)
        · split
          · exact (h.wrsy _ _).wrsy _ _
          · exact (h.wrsy _ _).wrsy _ _
theorem rg_dk0 (n p : Nat) : Rg n (dk0 n) p := ⟨fun x hx => (by cases hx), rfl, Nat.zero_le _⟩
end Go.Proofs.YtllbphanfahkkaaGreatDoor.RW

/-
  Journals, plain: what stays through any number of power failures: no program in sight.
-/
import Derived.Test.YtllbphanfahkkaaGreatDoorMQ5
namespace Go.Proofs.YtllbphanfahkkaaGreatDoor.RW
open Go Go.RowKit
section
variable {H : List UInt8 → List UInt8} (hH : ∀ l, (H l).length = 32)
/-- a journal that lives on its disk, or one that is broken on a disk without power -/
inductive KpS (H : List UInt8 → List UInt8) (n : Nat) (S : Dk) (rs : List ByteArray) : Bool → Prop
  | live (h : JInv H n S rs) : KpS H n S rs false
  | dead (hoff : S.off = true) (h : ∀ (keep : List Int) (torn : Int), ∃ c q, S.crash keep torn = ⟨false, 0, c, c, []⟩ ∧ Lies H n c (rs ++ q)) (hok : S.ok n) (hp : S.pend.length = 1) (hf : (stos H z32 rs).length ≤ n) : KpS H n S rs true
theorem KpS.fits {n : Nat} {S : Dk} {rs : List ByteArray} {br : Bool} (h : KpS H n S rs br) : (stos H z32 rs).length ≤ n := by
  cases h with
  | live h => exact h.fits
  | dead _ _ _ _ hf => exact hf
theorem KpS.pend {n : Nat} {S : Dk} {rs : List ByteArray} {br : Bool} (h : KpS H n S rs br) : S.pend.length ≤ 1 := by
  cases h with
  | live h => rw [h.pend]; exact Nat.zero_le _
  | dead _ _ _ hp _ => exact Nat.le_of_eq hp
theorem KpS.ok {n : Nat} {S : Dk} {rs : List ByteArray} {br : Bool} (h : KpS H n S rs br) : S.ok n := by
  cases h with
  | live h => intro x hx; rw [h.pend] at hx; cases hx
  | dead _ _ hok _ _ => exact hok
theorem KpS.crash {n : Nat} {S : Dk} {rs : List ByteArray} {br : Bool} (h : KpS H n S rs br) (keep : List Int) (torn : Int) : ∃ c q, S.crash keep torn = ⟨false, 0, c, c, []⟩ ∧ Lies H n c (rs ++ q) := by
  cases h with
  | live h =>
    obtain ⟨c, h1, h2⟩ := inv_crash H h keep torn
    exact ⟨c, [], h1, by rw [List.append_nil]; exact h2⟩
  | dead _ h _ _ _ => exact h keep torn
theorem KpS.cut {n : Nat} {S : Dk} {rs : List ByteArray} {br : Bool} (h : KpS H n S rs br) (k : Nat) (hk : 1 ≤ k) : KpS H n (S.cut (k : Int)).2 rs br := by
  cases h with
  | live h =>
    obtain ⟨h1, h2⟩ := inv_cutAt h k hk
    rw [h1]
    exact .live h2
  | dead hoff h hok hp hf =>
    have e : S.cut (k : Int) = (221, S) := by
      unfold Dk.cut
      rw [if_pos (by rw [hoff])]
    rw [e]
    exact .dead hoff h hok hp hf
include hH in
theorem KpS.app {n : Nat} {S : Dk} {rs : List ByteArray} {br : Bool} (h : KpS H n S rs br) (l : List ByteArray) (hl : ∀ r ∈ l, r.size ≤ 65536) :
    ∃ x rs' br' S', japp H n S rs br l = (x, rs', br', S') ∧ KpS H n S' rs' br' ∧ ((x = 0 ∧ rs' = rs ++ l) ∨ (x ≠ 0 ∧ rs' = rs)) := by
  cases h with
  | live h =>
    rcases japp_end hH h l hl with ⟨S', h1, h2, _⟩ | h1 | ⟨S', h1, hoff, _, h2, h3, h4⟩
    · exact ⟨_, _, _, _, h1, .live h2, .inl ⟨rfl, rfl⟩⟩
    · exact ⟨_, _, _, _, h1, .live h, .inr ⟨by decide, rfl⟩⟩
    · refine ⟨_, _, _, _, h1, .dead hoff (fun keep torn => ?_) h4 h3 h.fits, .inr ⟨by decide, rfl⟩⟩
      obtain ⟨c, g1, g2⟩ := h2 keep torn
      rcases g2 with g2 | g2
      · exact ⟨c, [], g1, by rw [List.append_nil]; exact g2⟩
      · exact ⟨c, l, g1, g2⟩
  | dead hoff h hok hp hf => exact ⟨_, _, _, _, japp_long (.inl rfl), .dead hoff h hok hp hf, .inr ⟨by decide, rfl⟩⟩
end
end Go.Proofs.YtllbphanfahkkaaGreatDoor.RW

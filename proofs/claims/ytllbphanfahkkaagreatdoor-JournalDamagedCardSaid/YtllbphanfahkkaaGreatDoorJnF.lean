/-
  Journals, plain: Open behind one changed byte: no program in sight.
-/
import Derived.Test.YtllbphanfahkkaaGreatDoorJnD
import Derived.Test.YtllbphanfahkkaaGreatDoorJn11
namespace Go.Proofs.YtllbphanfahkkaaGreatDoor.RW
open Go Go.RowKit
theorem lay_one {l : List UInt8} {k : Nat} {c : UInt8} (h : k < l.length) : lay l k [c] = l.set k c := by
  unfold lay Go.splice
  rw [List.set_eq_take_append_cons_drop, if_pos h]
  simp
section
variable {H : List UInt8 → List UInt8}
/-- Open, no loss of power scheduled, of a content that can be read -/
theorem jopen_some0 {n : Nat} {S : Dk} {rs : List ByteArray} {k : Nat} (hoff : S.off = false) (h0 : S.left = 0) (hk : k ≤ n) (hL : ldL H z32 S.vis = some (rs, k)) : ∃ S', jopen H n S = (0, some rs, S') := by
  unfold jopen
  rw [if_neg (by rw [hoff]; simp), hL]
  simp only
  by_cases hz : (S.vis.drop k).all (fun b => decide (b = 0)) = true
  · rw [if_pos hz]; exact ⟨_, rfl⟩
  · rw [if_neg hz]
    have hw : S.write n (k : Int) (strOf (List.replicate (n - k) 0)) = (0, ⟨false, 0, S.dur, lay S.vis k (List.replicate (n - k) 0), S.pend ++ [(k, strOf (List.replicate (n - k) 0))]⟩) := by
      unfold Dk.write
      rw [if_neg (by rw [hoff]; simp), if_pos ((insB_iff n _ _).2 ⟨by omega, by omega, by omega, by rw [strOf_size, List.length_replicate]; omega⟩), strOf_list, Int.toNat_natCast, hoff, h0]
      rfl
    rw [hw]
    simp only [ne_eq, not_true_eq_false, if_false]
    unfold Dk.sync
    simp
theorem jopen_none0 {n : Nat} {S : Dk} (hoff : S.off = false) (hL : ldL H z32 S.vis = none) : jopen H n S = (232, none, S) := by
  unfold jopen
  rw [if_neg (by rw [hoff]; simp), hL]
/-- Open behind one changed byte of the stored records -/
theorem dam_open (hH : ∀ l, (H l).length = 32) {n : Nat} {S : Dk} {rs : List ByteArray} (hI : JInv H n S rs) (h0 : S.left = 0) {k : Nat} {c : UInt8} (hk : k < (stos H z32 rs).length) (hne : S.vis[k]? ≠ some c) (hz : siz rs (k : Int) = false) :
    (∃ S', jopen H n (S.write n (k : Int) (strOf [c])).2 = (232, none, S')) ∨
    (c = 0 ∧ ∃ j S', j < rs.length ∧ jopen H n (S.write n (k : Int) (strOf [c])).2 = (0, some (rs.take j), S')) ∨
    ∃ is S', jopen H n (S.write n (k : Int) (strOf [c])).2 = (0, some is, S') ∧ Coll H z32 rs is := by
  have hf := hI.fits
  have hlen : S.vis.length = n := by rw [hI.vis]; exact cont_len H hf
  have hw : (S.write n (k : Int) (strOf [c])).2 = ⟨false, 0, S.dur, S.vis.set k c, [(k, strOf [c])]⟩ := by
    unfold Dk.write
    rw [if_neg (by rw [hI.off]; simp), if_pos ((insB_iff n _ _).2 ⟨by omega, by omega, by omega, by show ((1 : Nat) : Int) ≤ _; omega⟩), strOf_list, Int.toNat_natCast, hI.off, h0, hI.pend, lay_one (by omega)]
    rfl
  rw [hw]
  have hv : S.vis = stos H z32 rs ++ List.replicate (n - (stos H z32 rs).length) 0 := hI.vis
  have hd := dam (H := H) hH rs z32 (List.replicate (n - (stos H z32 rs).length) 0) k c hI.lims hk (by rw [← hv]; exact hne) hz
  rw [← hv] at hd
  have hle : ∀ {is : List ByteArray} {m : Nat}, ldL H z32 (S.vis.set k c) = some (is, m) → m ≤ n := fun h => by
    have h1 := (ldL_sound' H hH h).2.1
    rw [List.length_set, hlen] at h1
    exact h1
  rcases hd with h1 | ⟨h1, j, m, h2, h3⟩ | ⟨is, m, h1, h2⟩
  · exact .inl ⟨_, jopen_none0 (S := ⟨false, 0, S.dur, S.vis.set k c, [(k, strOf [c])]⟩) rfl h1⟩
  · obtain ⟨S', h4⟩ := jopen_some0 (H := H) (n := n) (S := ⟨false, 0, S.dur, S.vis.set k c, [(k, strOf [c])]⟩) rfl rfl (hle h3) h3
    exact .inr (.inl ⟨h1, j, S', h2, h4⟩)
  · obtain ⟨S', h4⟩ := jopen_some0 (H := H) (n := n) (S := ⟨false, 0, S.dur, S.vis.set k c, [(k, strOf [c])]⟩) rfl rfl (hle h1) h1
    exact .inr (.inr ⟨is, S', h4, h2⟩)
end
end Go.Proofs.YtllbphanfahkkaaGreatDoor.RW

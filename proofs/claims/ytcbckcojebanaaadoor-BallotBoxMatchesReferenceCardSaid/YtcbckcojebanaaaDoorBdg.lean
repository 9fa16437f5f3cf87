/-
  The digests of the votes' three one-byte strings are three: no condition.
-/
import Derived.Test.YtcbckcojebanaaaDoorBv
namespace Go.Proofs.YtcbckcojebanaaaDoor.RW
open Go Go.RowKit
/-- a number, reckoned before it is handed on -/
def frc {α : Type} (v : Int) (k : Int → α) : α := match v with
  | .ofNat n => Nat.rec (k 0) (fun m _ => k (Int.ofNat (m + 1))) n
  | .negSucc n => k (.negSucc n)
theorem frc_eq {α : Type} (v : Int) (k : Int → α) : frc v k = k v := by
  cases v with
  | ofNat n => cases n <;> rfl
  | negSucc n => rfl
/-- the message's words, as a list whose elements are reckoned -/
def wlS (b : Nat → Int) : Nat → List Int
  | 0 => []
  | i + 1 => frc (if i < 16 then w16 b i else wst (fun j => (wlS b i).getD j 0) i) fun v => wlS b i ++ [v]
theorem wlS_eq (b : Nat → Int) : ∀ i, wlS b i = wl b i
  | 0 => rfl
  | i + 1 => by rw [wlS, wl, frc_eq, wlS_eq b i]
/-- the digest's numbers, as lists whose elements are reckoned -/
def cS (H K W : Nat → Int) : Nat → List Int
  | 0 => [H 0, H 1, H 2, H 3, H 4, H 5, H 6, H 7]
  | i + 1 => frc (vstep (fun j => (cS H K W i).getD j 0) (K i) (W i) 0) fun a => frc (vstep (fun j => (cS H K W i).getD j 0) (K i) (W i) 4) fun e =>
    [a, (cS H K W i).getD 0 0, (cS H K W i).getD 1 0, (cS H K W i).getD 2 0, e, (cS H K W i).getD 4 0, (cS H K W i).getD 5 0, (cS H K W i).getD 6 0]
theorem vstep_congr (V V' : Nat → Int) (k x : Int) (h : ∀ j, j < 8 → V j = V' j) : ∀ j, vstep V k x j = vstep V' k x j := by
  have ht : tOf V k x = tOf V' k x := by unfold tOf; rw [h 7 (by decide), h 4 (by decide), h 5 (by decide), h 6 (by decide)]
  have hu : uOf V = uOf V' := by unfold uOf; rw [h 0 (by decide), h 1 (by decide), h 2 (by decide)]
  intro j
  match j with
  | 0 => simp only [vstep, ht, hu]
  | 1 => simp only [vstep, h 0 (by decide)]
  | 2 => simp only [vstep, h 1 (by decide)]
  | 3 => simp only [vstep, h 2 (by decide)]
  | 4 => simp only [vstep, ht, h 3 (by decide)]
  | 5 => simp only [vstep, h 4 (by decide)]
  | 6 => simp only [vstep, h 5 (by decide)]
  | j + 7 => simp only [vstep, h 6 (by decide)]
theorem cS_eq (H K W W' : Nat → Int) : ∀ n, (∀ i, i < n → W i = W' i) → ∀ j, j < 8 → (cS H K W' n).getD j 0 = comp H K W n j
  | 0, _, j, hj => by
    have h' : j = 0 ∨ j = 1 ∨ j = 2 ∨ j = 3 ∨ j = 4 ∨ j = 5 ∨ j = 6 ∨ j = 7 := by omega
    rcases h' with rfl | rfl | rfl | rfl | rfl | rfl | rfl | rfl <;> rfl
  | n + 1, hW, j, hj => by
    have ih := cS_eq H K W W' n (fun i hi => hW i (by omega))
    rw [cS, frc_eq, frc_eq, comp, hW n (by omega), vstep_congr (comp H K W n) (fun j => (cS H K W' n).getD j 0) _ _ (fun j hj => (ih j hj).symm)]
    have h' : j = 0 ∨ j = 1 ∨ j = 2 ∨ j = 3 ∨ j = 4 ∨ j = 5 ∨ j = 6 ∨ j = 7 := by omega
    rcases h' with rfl | rfl | rfl | rfl | rfl | rfl | rfl | rfl <;> rfl
/-- a digest's first byte -/
theorem sha_first (l : List UInt8) (h : (padL l).length / 64 = 1) : (sha k0F l).getD 0 0 = UInt8.ofNat (((sh0 0 + (cS sh0 k0F (fun i => (wlS (blkf (padL l) 0) 64).getD i 0) 64).getD 0 0) % 4294967296 / 16777216) % 256).toNat := by
  rw [cS_eq sh0 k0F (wf (blkf (padL l) 0)) (fun i => (wlS (blkf (padL l) 0) 64).getD i 0) 64 (fun i hi => by show _ = (wlS (blkf (padL l) 0) 64).getD i 0; rw [wlS_eq, wl_get _ _ _ hi]) 0 (by decide)]
  unfold sha
  rw [h]
  rfl
set_option maxRecDepth 1000000 in
theorem first1 : (sha k0F [1]).getD 0 0 = 75 := by rw [sha_first [1] (by decide)]; decide +kernel
set_option maxRecDepth 1000000 in
theorem first2 : (sha k0F [2]).getD 0 0 = 219 := by rw [sha_first [2] (by decide)]; decide +kernel
set_option maxRecDepth 1000000 in
theorem first3 : (sha k0F [3]).getD 0 0 = 8 := by rw [sha_first [3] (by decide)]; decide +kernel
/-- what tells a vote's digest from others -/
def fby (d : ByteArray) : Nat := (d.data.toList.getD 0 0).toNat + 1000 * d.data.toList.length
theorem dgst_inj (a b : Int) (ha : 0 ≤ a ∧ a < 4) (hb : 0 ≤ b ∧ b < 4) (h : dgst a = dgst b) : a = b := by
  have key : ∀ c : Int, 0 ≤ c ∧ c < 4 → (c = 0 ∧ (dgst c).data.toList.getD 0 0 = 0) ∨ (c = 1 ∧ (dgst c).data.toList.getD 0 0 = 75) ∨ (c = 2 ∧ (dgst c).data.toList.getD 0 0 = 219) ∨ (c = 3 ∧ (dgst c).data.toList.getD 0 0 = 8) := fun c hc => by
    have h' : c = 0 ∨ c = 1 ∨ c = 2 ∨ c = 3 := by omega
    rcases h' with rfl | rfl | rfl | rfl
    · exact .inl ⟨rfl, rfl⟩
    · exact .inr (.inl ⟨rfl, first1⟩)
    · exact .inr (.inr (.inl ⟨rfl, first2⟩))
    · exact .inr (.inr (.inr ⟨rfl, first3⟩))
  have h1 := key a ha
  have h2 := key b hb
  rw [h] at h1
  rcases h1 with ⟨rfl, e1⟩ | ⟨rfl, e1⟩ | ⟨rfl, e1⟩ | ⟨rfl, e1⟩ <;> rcases h2 with ⟨rfl, e2⟩ | ⟨rfl, e2⟩ | ⟨rfl, e2⟩ | ⟨rfl, e2⟩ <;> first | rfl | (rw [e1] at e2; exact absurd e2 (by decide))
end Go.Proofs.YtcbckcojebanaaaDoor.RW

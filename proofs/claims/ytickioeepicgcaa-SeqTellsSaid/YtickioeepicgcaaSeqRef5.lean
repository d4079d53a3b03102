/- The count of lost marks in the document's order. No program in sight. -/
import Derived.Test.YtickioeepicgcaaSeqRef4
namespace Go.Proofs.Ytickioeepicgcaa
open Go.RowKit
/-- of the marks below k, how many go out unset when all move by b -/
def upM (m : Nat → Bool) (b : Nat) : Nat → Nat
  | 0 => 0
  | k + 1 => upM m b k + (if 64 ≤ k + b then (!(m k)).toNat else 0)
theorem upM_next (m : Nat → Bool) (b k : Nat) (hb : b < 64) : upM m (b + 1) k = upM m b k + (if 63 - b < k then (!(m (63 - b))).toNat else 0) := by
  induction k with
  | zero => rfl
  | succ k ih =>
    simp only [upM]
    rw [ih]
    by_cases h : k = 63 - b
    · subst h
      rw [if_neg (Nat.lt_irrefl _), if_pos (by omega), if_neg (by omega), if_pos (by omega)]
    · by_cases h2 : 63 - b < k
      · rw [if_pos h2, if_pos (by omega), if_pos (by omega), if_pos (by omega)]; omega
      · rw [if_neg h2, if_neg (by omega), if_neg (by omega), if_neg (by omega)]
theorem upM_zero (m : Nat → Bool) (k : Nat) (hk : k ≤ 64) : upM m 0 k = 0 := by
  induction k with
  | zero => rfl
  | succ k ih => simp only [upM]; rw [ih (by omega), if_neg (by omega)]
theorem upM_gone (m : Nat → Bool) (b : Nat) (hb : b ≤ 64) : upM m b 64 = goneM m b := by
  induction b with
  | zero => exact upM_zero m 64 (Nat.le_refl _)
  | succ b ih => rw [upM_next m b 64 (by omega), ih (by omega), if_pos (by omega), goneM_s]
theorem upM_far (m : Nat → Bool) (b k : Nat) (hb : 64 ≤ b) : upM m b k = upM m 64 k := by
  induction k with
  | zero => rfl
  | succ k ih => simp only [upM]; rw [ih, if_pos (by omega), if_pos (by omega)]
theorem upM_le (m : Nat → Bool) (b k : Nat) : upM m b k ≤ k := by
  induction k with
  | zero => exact Nat.le_refl _
  | succ k ih => simp only [upM]; split <;> (try cases m k) <;> simp <;> omega
theorem upM_s (m : Nat → Bool) (b k : Nat) : upM m b (k + 1) = upM m b k + (if 64 ≤ k + b then (!(m k)).toNat else 0) := rfl
end Go.Proofs.Ytickioeepicgcaa

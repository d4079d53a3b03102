/- The plain law of package seq: a row of 64 marks as a word, and what a number that comes does to the state. No program in sight. -/
import Derived.Test.YtickioeepicgcaaAid
namespace Go.Proofs.Ytickioeepicgcaa
open Go.RowKit
/-- the marks from the oldest one on, d of them, as a number -/
def bwD (m : Nat → Bool) : Nat → Nat
  | 0 => 0
  | d + 1 => 2 * bwD m d + (m (63 - d)).toNat
def bw (m : Nat → Bool) : Nat := bwD m 64
theorem bwD_lt (m : Nat → Bool) (d : Nat) : bwD m d < 2 ^ d := by
  induction d with
  | zero => simp [bwD]
  | succ d ih =>
    have : (m (63 - d)).toNat ≤ 1 := by cases m (63 - d) <;> simp
    simp only [bwD]
    omega
theorem bw_lt (m : Nat → Bool) : bw m < 18446744073709551616 := bwD_lt m 64
theorem bwD_bit (m : Nat → Bool) (d i : Nat) (hd : d ≤ 64) : (bwD m d).testBit i = (decide (i < d) && m (64 - d + i)) := by
  induction d generalizing i with
  | zero => simp [bwD]
  | succ d ih =>
    simp only [bwD]
    cases i with
    | zero =>
      rw [Nat.testBit_zero]
      have e : 64 - (d + 1) + 0 = 63 - d := by omega
      rw [e]
      cases m (63 - d) <;> simp <;> omega
    | succ i =>
      rw [Nat.testBit_succ]
      have e : (2 * bwD m d + (m (63 - d)).toNat) / 2 = bwD m d := by
        have : (m (63 - d)).toNat ≤ 1 := by cases m (63 - d) <;> simp
        omega
      rw [e, ih i (by omega)]
      by_cases h : i < d
      · have e2 : 64 - d + i = 64 - (d + 1) + (i + 1) := by omega
        rw [e2]; simp [h]
      · simp [h]
theorem bw_bit (m : Nat → Bool) (i : Nat) : (bw m).testBit i = (decide (i < 64) && m i) := by
  unfold bw
  rw [bwD_bit m 64 i (Nat.le_refl _)]
  simp
theorem bw_mod (m : Nat → Bool) (i : Nat) (h : i < 64) : bw m / 2 ^ i % 2 = (m i).toNat := by
  have h1 := bw_bit m i
  rw [Nat.testBit_eq_decide_div_mod_eq] at h1
  simp only [h, decide_true, Bool.true_and] at h1
  cases hm : m i <;> rw [hm] at h1 <;> simp at h1 ⊢ <;> omega
theorem bw_congr (m m' : Nat → Bool) (h : ∀ i, i < 64 → m i = m' i) : bw m = bw m' := by
  apply Nat.eq_of_testBit_eq
  intro i
  rw [bw_bit, bw_bit]
  by_cases hi : i < 64
  · simp [hi, h i hi]
  · simp [hi]
/-- the marks moved by some places -/
def mvM (m : Nat → Bool) (by_ : Nat) : Nat → Bool := fun i => decide (by_ ≤ i) && m (i - by_)
theorem bw_shl (m : Nat → Bool) (c : Nat) : bw m * 2 ^ c % 18446744073709551616 = bw (mvM m c) := by
  apply Nat.eq_of_testBit_eq
  intro i
  rw [show (18446744073709551616 : Nat) = 2 ^ 64 from rfl, Nat.testBit_mod_two_pow, Nat.testBit_mul_two_pow, bw_bit, bw_bit]
  unfold mvM
  by_cases hi : i < 64
  · by_cases hc : c ≤ i
    · have : i - c < 64 := by omega
      simp [hi, hc, this]
    · simp [hi, hc]
  · simp [hi]
theorem bw_far (m : Nat → Bool) (c : Nat) (h : 64 ≤ c) : bw (mvM m c) = 0 := by
  apply Nat.eq_of_testBit_eq
  intro i
  rw [bw_bit]
  unfold mvM
  by_cases hi : i < 64
  · have : ¬ c ≤ i := by omega
    simp [this]
  · simp [hi]
/-- one mark more -/
def onM (m : Nat → Bool) (j : Nat) : Nat → Bool := fun i => decide (i = j) || m i
theorem bw_or (m : Nat → Bool) (j : Nat) (h : j < 64) : bw m ||| 2 ^ j = bw (onM m j) := by
  apply Nat.eq_of_testBit_eq
  intro i
  rw [Nat.testBit_or, Nat.testBit_two_pow, bw_bit, bw_bit]
  unfold onM
  by_cases hi : i < 64
  · by_cases hj : j = i
    · subst hj; simp [hi]
    · have hj' : ¬ i = j := fun e => hj e.symm
      simp [hi, hj, hj']
  · have : ¬ j = i := by omega
    simp [hi, this]
/-- the one mark of the first number -/
def m1 : Nat → Bool := fun i => decide (i = 0)
theorem bw_m1 : bw m1 = 1 := by decide +kernel
/-- how many of the marks that go out are not set: of the k oldest -/
def goneM (m : Nat → Bool) : Nat → Nat
  | 0 => 0
  | k + 1 => goneM m k + (!(m (63 - k))).toNat
theorem goneM_le (m : Nat → Bool) (k : Nat) : goneM m k ≤ k := by
  induction k with
  | zero => simp [goneM]
  | succ k ih => simp only [goneM]; cases m (63 - k) <;> simp <;> omega
theorem u64_and_nat (a b : Nat) (ha : a < 18446744073709551616) (hb : b < 18446744073709551616) : bits .and .u64 (a : Int) (b : Int) = ((a &&& b : Nat) : Int) := by
  have hx : a &&& b < 2 ^ 64 := Nat.and_lt_two_pow a (by omega)
  have h : ∀ n : Nat, n < 18446744073709551616 → (BitVec.ofInt 64 (n : Int)).toNat = n := fun n hn => by
    rw [BitVec.ofInt_natCast, BitVec.toNat_ofNat]; exact Nat.mod_eq_of_lt (by omega)
  show IntKind.u64.wrap ((BitVec.ofInt 64 (a : Int) &&& BitVec.ofInt 64 (b : Int)).toNat : Int) = _
  rw [BitVec.toNat_and, h a ha, h b hb, IntKind.wrap_u64]
  omega
theorem u64_or_nat (a b : Nat) (ha : a < 18446744073709551616) (hb : b < 18446744073709551616) : bits .or .u64 (a : Int) (b : Int) = ((a ||| b : Nat) : Int) := by
  have hx : a ||| b < 2 ^ 64 := Nat.or_lt_two_pow (by omega) (by omega)
  have h : ∀ n : Nat, n < 18446744073709551616 → (BitVec.ofInt 64 (n : Int)).toNat = n := fun n hn => by
    rw [BitVec.ofInt_natCast, BitVec.toNat_ofNat]; exact Nat.mod_eq_of_lt (by omega)
  show IntKind.u64.wrap ((BitVec.ofInt 64 (a : Int) ||| BitVec.ofInt 64 (b : Int)).toNat : Int) = _
  rw [BitVec.toNat_or, h a ha, h b hb, IntKind.wrap_u64]
  omega
end Go.Proofs.Ytickioeepicgcaa

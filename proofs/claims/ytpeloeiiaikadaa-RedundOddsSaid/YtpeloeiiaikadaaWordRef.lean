/- The contracts of package backstayref01 that tell quotients and numbers going round. Conditions: the arguments are numbers of their kinds. -/
import Derived.Test.YtpeloeiiaikadaaWord
namespace Go.Proofs.Ytpeloeiiaikadaa
open Go.RowKit
attribute [local irreducible] satZ floorZ restZ behindZ

theorem floor_m1_most : 9223372036854775807 = floorZ (-9223372036854775808) (-1) := by decide +kernel
theorem floor_m1_in (a : Int) (ha : I64 a) (h : a ≠ -9223372036854775808) : -a = floorZ a (-1) := by
  obtain ⟨a1, a2⟩ := ha
  rw [← floor_m1, satZ_in _ (by omega) (by omega)]

theorem behind_hi (a b : Int) (ha : 0 ≤ a ∧ a < 4294967296) (hb : 0 ≤ b ∧ b < 4294967296) (h : 2147483648 ≤ a - b) : a - b - 4294967296 = behindZ a b := by
  unfold behindZ; split <;> omega
theorem behind_lo (a b : Int) (ha : 0 ≤ a ∧ a < 4294967296) (hb : 0 ≤ b ∧ b < 4294967296) (h : a - b < -2147483648) : a - b + 4294967296 = behindZ a b := by
  unfold behindZ; split <;> omega
theorem behind_mid (a b : Int) (h1 : -2147483648 ≤ a - b) (h : a - b < 2147483648) : a - b = behindZ a b := by
  unfold behindZ; split <;> omega
end Go.Proofs.Ytpeloeiiaikadaa

/- The contract of backstayref01's Parts: the upper and the lower half of a number of 128 bits. Conditions: the number is below 65536 to the 8th. -/
import Derived.Test.YtpeloeiiaikadaaWide3
namespace Go.Proofs.Ytpeloeiiaikadaa
open Go.RowKit
/-- the halves of a number: 2^64 times the first one, and the second one -/
def hiZ (z : Int) : Int := wrap64 (z / 18446744073709551616)
def loZ (z : Int) : Int := z % 18446744073709551616
theorem dg_div (v k i : Nat) : dg (v / 65536 ^ k) i = dg v (i + k) := by
  unfold dg
  rw [Nat.div_div_eq_div_mul, ← Nat.pow_add, Nat.add_comm k i]
theorem half_lt (v : Nat) (hv : v < 65536 ^ 8) : v / 65536 ^ 4 < 65536 ^ 4 := by
  apply Nat.div_lt_of_lt_mul
  rw [← Nat.pow_add]; exact hv
theorem parts_plus (v : Nat) : wrap64 ((v / 65536 ^ 4 : Nat) : Int) = hiZ (zv false v) ∧ ((v % 65536 ^ 4 : Nat) : Int) = loZ (zv false v) := by
  have h4 : (65536 : Nat) ^ 4 = 18446744073709551616 := by decide
  unfold hiZ loZ zv
  rw [h4]
  simp
theorem parts_minus0 (v : Nat) (h : v % 65536 ^ 4 = 0) : wrap64 (-(wrap64 ((v / 65536 ^ 4 : Nat) : Int))) = hiZ (zv true v) ∧ (0 : Int) = loZ (zv true v) := by
  have h4 : (65536 : Nat) ^ 4 = 18446744073709551616 := by decide
  rw [h4] at *
  unfold hiZ loZ zv wrap64
  simp only [if_true]
  omega
theorem parts_minus (v : Nat) (h : v % 65536 ^ 4 ≠ 0) : wrap64 (wrap64 (-(wrap64 ((v / 65536 ^ 4 : Nat) : Int))) - 1) = hiZ (zv true v) ∧ IntKind.u64.wrap (-((v % 65536 ^ 4 : Nat) : Int)) = loZ (zv true v) := by
  have h4 : (65536 : Nat) ^ 4 = 18446744073709551616 := by decide
  rw [h4] at *
  rw [IntKind.wrap_u64]
  unfold hiZ loZ zv wrap64
  simp only [if_true]
  omega
attribute [local irreducible] wideA dg hiZ loZ
def PartsPost (W : World) (z : Int) (e : Ending) (W' : World) : Prop := e = .returned (.tuple #[.int .i64 (hiZ z), .int .u64 (loZ z)]) ∧ Below W.heap.size W W'
end Go.Proofs.Ytpeloeiiaikadaa

/- The contracts of backstayref01's Plus at every sign, Held, Abs, Add, Sub. Conditions: the numbers are below 65536 to the 9th. -/
import Derived.Test.YtpeloeiiaikadaaWide2
namespace Go.Proofs.Ytpeloeiiaikadaa
open Go.RowKit
/-- the number of a sign and a size -/
def zv (m : Bool) (v : Nat) : Int := if m = true then -(v : Int) else v
theorem zv_of (n : Int) : zv (decide (n < 0)) n.natAbs = n := by unfold zv; by_cases h : n < 0 <;> simp [h] <;> omega
theorem zv_turn (m : Bool) (v : Nat) : zv (!m) v = -zv m v := by unfold zv; cases m <;> simp
def PlusPost (W : World) (z : Int) (b : Nat) (e : Ending) (W' : World) : Prop := ∃ m v, e = .returned (.agg (wideA m (dg v))) ∧ zv m v = z ∧ v ≤ b ∧ Below W.heap.size W W'
theorem PlusPost.of {W : World} {m : Bool} {v : Nat} {z : Int} {b : Nat} {e : Ending} {W' : World} (h : WidePost W m v e W') (hz : zv m v = z) (hb : v ≤ b) : PlusPost W z b e W' := ⟨m, v, h.1, hz, hb, h.2⟩
theorem dg_mod (v k i : Nat) (h : i < k) : dg (v % 65536 ^ k) i = dg v i := by
  unfold dg
  have e : 65536 ^ k = 65536 ^ i * 65536 ^ (k - i) := by rw [← Nat.pow_add]; congr 1; omega
  rw [e, Nat.mod_mul_right_div_self]
  obtain ⟨j, hj⟩ : ∃ j, k - i = j + 1 := ⟨k - i - 1, by omega⟩
  rw [hj, Nat.pow_succ, Nat.mul_comm, Nat.mod_mul_right_mod]
theorem big_dg (v : Nat) (h : 65536 ^ 4 ≤ v) (h9 : v < 65536 ^ 9) : 0 < dg v 4 + dg v 5 + dg v 6 + dg v 7 + dg v 8 := by
  rcases Nat.eq_zero_or_pos (dg v 4 + dg v 5 + dg v 6 + dg v 7 + dg v 8) with h0 | h0
  · exfalso
    have e4 := div_step v 4
    have e5 := div_step v 5
    have e6 := div_step v 6
    have e7 := div_step v 7
    have e8 := div_step v 8
    have e9 : v / 65536 ^ (8 + 1) = 0 := Nat.div_eq_of_lt h9
    have hp : 1 ≤ v / 65536 ^ 4 := (Nat.one_le_div_iff (pw_pos 4)).2 h
    simp only [Nat.reduceAdd] at *
    omega
  · exact h0
attribute [local irreducible] wideA dg satZ
theorem down_step (x j : Nat) : ((x / 65536 ^ (j + 1) : Nat) : Int) * 65536 + ((dg x j : Nat) : Int) = ((x / 65536 ^ j : Nat) : Int) := by
  rw [← word_down x j]; simp
theorem down_lt (x j : Nat) (hj : j ≤ 3) (hx : x < 65536 ^ 4) : x / 65536 ^ (j + 1) < 281474976710656 := by
  apply Nat.div_lt_of_lt_mul
  have h1 : 65536 ^ 1 ≤ 65536 ^ (j + 1) := Nat.pow_le_pow_right (by decide) (by omega)
  calc x < 65536 ^ 4 := hx
    _ = 65536 ^ 1 * 281474976710656 := by decide
    _ ≤ 65536 ^ (j + 1) * 281474976710656 := Nat.mul_le_mul_right _ h1

/-- What the great digits are: five numbers, not all 0. -/
theorem some_big (v : Nat) (h : 65536 ^ 4 ≤ v) (h9 : v < 65536 ^ 9) : dg v 4 ≠ 0 ∨ (dg v 4 = 0 ∧ dg v 5 ≠ 0) ∨ (dg v 4 = 0 ∧ dg v 5 = 0 ∧ dg v 6 ≠ 0) ∨ (dg v 4 = 0 ∧ dg v 5 = 0 ∧ dg v 6 = 0 ∧ dg v 7 ≠ 0) ∨ (dg v 4 = 0 ∧ dg v 5 = 0 ∧ dg v 6 = 0 ∧ dg v 7 = 0 ∧ dg v 8 ≠ 0) := by
  have := big_dg v h h9
  omega
theorem abs_lt (n : Int) (hn : I64 n) : n.natAbs < 65536 ^ 8 := by
  obtain ⟨h1, h2⟩ := hn
  have : (65536 : Nat) ^ 8 = 340282366920938463463374607431768211456 := by decide
  omega
theorem p89 : (65536 : Nat) ^ 8 + 65536 ^ 8 < 65536 ^ 9 := by decide
end Go.Proofs.Ytpeloeiiaikadaa

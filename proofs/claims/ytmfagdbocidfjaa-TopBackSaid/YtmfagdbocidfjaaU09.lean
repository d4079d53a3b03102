import Derived.Test.YtmfagdbocidfjaaU08
/- The contracts of backstayref01's Plus at every sign, Held, Abs, Add, Sub. Conditions: the numbers are below 65536 to the 9th. -/
namespace Go.Proofs.Ytmfagdbocidfjaa
open Go.RowKit
/-- the number of a sign and a size -/
def zv (m : Bool) (v : Nat) : Int := if m = true then -(v : Int) else v
set_option maxRecDepth 100000 in
theorem zv_of (n : Int) : zv (decide (n < 0)) n.natAbs = n := by unfold zv; by_cases h : n < 0 <;> simp [h] <;> omega
set_option maxRecDepth 100000 in
theorem zv_turn (m : Bool) (v : Nat) : zv (!m) v = -zv m v := by unfold zv; cases m <;> simp
def PlusPost (W : World) (z : Int) (b : Nat) (e : Ending) (W' : World) : Prop := ∃ m v, e = .returned (.agg (wideA m (dg v))) ∧ zv m v = z ∧ v ≤ b ∧ Below W.heap.size W W'
set_option maxRecDepth 100000 in
theorem PlusPost.of {W : World} {m : Bool} {v : Nat} {z : Int} {b : Nat} {e : Ending} {W' : World} (h : WidePost W m v e W') (hz : zv m v = z) (hb : v ≤ b) : PlusPost W z b e W' := ⟨m, v, h.1, hz, hb, h.2⟩
set_option maxRecDepth 100000 in
theorem dg_mod (v k i : Nat) (h : i < k) : dg (v % 65536 ^ k) i = dg v i := by
  unfold dg
  have e : 65536 ^ k = 65536 ^ i * 65536 ^ (k - i) := by rw [← Nat.pow_add]; congr 1; omega
  rw [e, Nat.mod_mul_right_div_self]
  obtain ⟨j, hj⟩ : ∃ j, k - i = j + 1 := ⟨k - i - 1, by omega⟩
  rw [hj, Nat.pow_succ, Nat.mul_comm, Nat.mod_mul_right_mod]
set_option maxRecDepth 100000 in
theorem big_dg (v : Nat) (h : 65536 ^ 4 ≤ v) (h9 : v < 65536 ^ 9) : 0 < dg v 4 + dg v 5 + dg v 6 + dg v 7 + dg v 8 := by
  rcases Nat.eq_zero_or_pos (dg v 4 + dg v 5 + dg v 6 + dg v 7 + dg v 8) with h0 | h0
  · exfalso
    have e4 := div_step v 4
    have e5 := div_step v 5
    have e6 := div_step v 6
    have e7 := div_step v 7
    have e8 := div_step v 8
    have e9 : v / 65536 ^ (8 + 1) = 0 := Nat.div_eq_of_lt h9
    have hp : 1 ≤ v / 65536 ^ 4 := (Nat.one_le_div_iff (pw_pos 4)).2 h
    simp only [Nat.reduceAdd] at *
    omega
  · exact h0
attribute [local irreducible] wideA dg satZ
set_option maxRecDepth 100000 in
theorem down_step (x j : Nat) : ((x / 65536 ^ (j + 1) : Nat) : Int) * 65536 + ((dg x j : Nat) : Int) = ((x / 65536 ^ j : Nat) : Int) := by
  rw [← word_down x j]; simp
set_option maxRecDepth 100000 in
theorem down_lt (x j : Nat) (hj : j ≤ 3) (hx : x < 65536 ^ 4) : x / 65536 ^ (j + 1) < 281474976710656 := by
  apply Nat.div_lt_of_lt_mul
  have h1 : 65536 ^ 1 ≤ 65536 ^ (j + 1) := Nat.pow_le_pow_right (by decide) (by omega)
  calc x < 65536 ^ 4 := hx
    _ = 65536 ^ 1 * 281474976710656 := by decide
    _ ≤ 65536 ^ (j + 1) * 281474976710656 := Nat.mul_le_mul_right _ h1

set_option maxRecDepth 100000 in
/-- What the great digits are: five numbers, not all 0. -/
theorem some_big (v : Nat) (h : 65536 ^ 4 ≤ v) (h9 : v < 65536 ^ 9) : dg v 4 ≠ 0 ∨ (dg v 4 = 0 ∧ dg v 5 ≠ 0) ∨ (dg v 4 = 0 ∧ dg v 5 = 0 ∧ dg v 6 ≠ 0) ∨ (dg v 4 = 0 ∧ dg v 5 = 0 ∧ dg v 6 = 0 ∧ dg v 7 ≠ 0) ∨ (dg v 4 = 0 ∧ dg v 5 = 0 ∧ dg v 6 = 0 ∧ dg v 7 = 0 ∧ dg v 8 ≠ 0) := by
  have := big_dg v h h9
  omega
set_option maxRecDepth 100000 in
theorem abs_lt (n : Int) (hn : I64 n) : n.natAbs < 65536 ^ 8 := by
  obtain ⟨h1, h2⟩ := hn
  have : (65536 : Nat) ^ 8 = 340282366920938463463374607431768211456 := by decide
  omega
set_option maxRecDepth 100000 in
theorem p89 : (65536 : Nat) ^ 8 + 65536 ^ 8 < 65536 ^ 9 := by decide
end Go.Proofs.Ytmfagdbocidfjaa

/- The contract of backstayref01's Parts: the upper and the lower half of a number of 128 bits. Conditions: the number is below 65536 to the 8th. -/
namespace Go.Proofs.Ytmfagdbocidfjaa
open Go.RowKit
/-- the halves of a number: 2^64 times the first one, and the second one -/
def hiZ (z : Int) : Int := wrap64 (z / 18446744073709551616)
def loZ (z : Int) : Int := z % 18446744073709551616
set_option maxRecDepth 100000 in
theorem dg_div (v k i : Nat) : dg (v / 65536 ^ k) i = dg v (i + k) := by
  unfold dg
  rw [Nat.div_div_eq_div_mul, ← Nat.pow_add, Nat.add_comm k i]
set_option maxRecDepth 100000 in
theorem half_lt (v : Nat) (hv : v < 65536 ^ 8) : v / 65536 ^ 4 < 65536 ^ 4 := by
  apply Nat.div_lt_of_lt_mul
  rw [← Nat.pow_add]; exact hv
set_option maxRecDepth 100000 in
theorem parts_plus (v : Nat) : wrap64 ((v / 65536 ^ 4 : Nat) : Int) = hiZ (zv false v) ∧ ((v % 65536 ^ 4 : Nat) : Int) = loZ (zv false v) := by
  have h4 : (65536 : Nat) ^ 4 = 18446744073709551616 := by decide
  unfold hiZ loZ zv
  rw [h4]
  simp
set_option maxRecDepth 100000 in
theorem parts_minus0 (v : Nat) (h : v % 65536 ^ 4 = 0) : wrap64 (-(wrap64 ((v / 65536 ^ 4 : Nat) : Int))) = hiZ (zv true v) ∧ (0 : Int) = loZ (zv true v) := by
  have h4 : (65536 : Nat) ^ 4 = 18446744073709551616 := by decide
  rw [h4] at *
  unfold hiZ loZ zv wrap64
  simp only [if_true]
  omega
set_option maxRecDepth 100000 in
theorem parts_minus (v : Nat) (h : v % 65536 ^ 4 ≠ 0) : wrap64 (wrap64 (-(wrap64 ((v / 65536 ^ 4 : Nat) : Int))) - 1) = hiZ (zv true v) ∧ IntKind.u64.wrap (-((v % 65536 ^ 4 : Nat) : Int)) = loZ (zv true v) := by
  have h4 : (65536 : Nat) ^ 4 = 18446744073709551616 := by decide
  rw [h4] at *
  rw [IntKind.wrap_u64]
  unfold hiZ loZ zv wrap64
  simp only [if_true]
  omega
attribute [local irreducible] wideA dg hiZ loZ
def PartsPost (W : World) (z : Int) (e : Ending) (W' : World) : Prop := e = .returned (.tuple #[.int .i64 (hiZ z), .int .u64 (loZ z)]) ∧ Below W.heap.size W W'
end Go.Proofs.Ytmfagdbocidfjaa

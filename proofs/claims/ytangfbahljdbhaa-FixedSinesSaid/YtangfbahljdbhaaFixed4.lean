/- The contracts of package fixed's Sin, Cos and of the document's Sin of layer 22. Conditions: the angle is an int. -/
import Derived.Test.YtangfbahljdbhaaFixed3
namespace Go.Proofs.Ytangfbahljdbhaa
open Go.RowKit
def sinV (x : Int) : Int := 16 * (x * (32768 - x)) * 65536 / (5368709120 - 4 * (x * (32768 - x)))
def sinZ (a : Int) : Int := if 32768 ≤ a % 65536 then -sinV (a % 32768) else sinV (a % 32768)
theorem par_bd (x : Int) (h0 : 0 ≤ x) (h1 : x ≤ 32767) : 0 ≤ x * (32768 - x) ∧ x * (32768 - x) ≤ 268435456 := by
  refine ⟨Int.mul_nonneg h0 (by omega), ?_⟩
  have h : 0 ≤ (x - 16384) * (x - 16384) := by
    by_cases c : 0 ≤ x - 16384
    · exact Int.mul_nonneg c c
    · exact Int.mul_nonneg_of_nonpos_of_nonpos (by omega) (by omega)
  rw [Int.sub_mul, Int.mul_sub, Int.mul_comm 16384] at h
  rw [Int.mul_sub]
  omega
theorem sinV_bd (x : Int) (h0 : 0 ≤ x) (h1 : x ≤ 32767) : 0 ≤ sinV x ∧ sinV x ≤ 65536 ∧ (16 * (x * (32768 - x)) * 65536).tdiv (5368709120 - 4 * (x * (32768 - x))) = sinV x := by
  obtain ⟨p0, p1⟩ := par_bd x h0 h1
  unfold sinV
  generalize x * (32768 - x) = p at *
  refine ⟨Int.ediv_nonneg (by omega) (by omega), Int.ediv_le_of_le_mul (by omega) (by omega), Int.tdiv_eq_ediv_of_nonneg (by omega)⟩
theorem sin_bd (a : Int) : -65536 ≤ sinZ a ∧ sinZ a ≤ 65536 := by
  obtain ⟨h0, h1, _⟩ := sinV_bd (a % 32768) (by omega) (by omega)
  unfold sinZ
  split <;> omega
theorem sin_half (a : Int) : sinZ (a + 32768) = -sinZ a := by
  unfold sinZ
  have e : (a + 32768) % 32768 = a % 32768 := by omega
  rw [e]
  by_cases h : 32768 ≤ a % 65536
  · rw [if_pos h, if_neg (by omega), Int.neg_neg]
  · rw [if_neg h, if_pos (by omega)]
theorem sin_0 : sinZ 0 = 0 := by decide +kernel
theorem sin_q : sinZ 16384 = 65536 := by decide +kernel
theorem and_mask (a : Int) : bits .and .i64 a 65535 = a % 65536 := by
  show IntKind.i64.wrap ((BitVec.ofInt 64 a &&& BitVec.ofInt 64 65535).toNat : Int) = _
  have e2 : (BitVec.ofInt 64 65535).toNat = 2 ^ 16 - 1 := by decide
  rw [BitVec.toNat_and, e2, Nat.and_two_pow_sub_one_eq_mod, BitVec.toNat_ofInt, IntKind.wrap_i64]
  omega
theorem and_mask2 (a : Int) : bits .and .i64 a 32767 = a % 32768 := by
  show IntKind.i64.wrap ((BitVec.ofInt 64 a &&& BitVec.ofInt 64 32767).toNat : Int) = _
  have e2 : (BitVec.ofInt 64 32767).toNat = 2 ^ 15 - 1 := by decide
  rw [BitVec.toNat_and, e2, Nat.and_two_pow_sub_one_eq_mod, BitVec.toNat_ofInt, IntKind.wrap_i64]
  omega
theorem tmod_turn (a : Int) : (a.tmod 65536 < 0 ∧ a.tmod 65536 + 65536 = a % 65536) ∨ (0 ≤ a.tmod 65536 ∧ a.tmod 65536 = a % 65536) := by
  have h := Int.tmod_eq_emod (a := a) (b := 65536)
  have m0 := Int.emod_nonneg a (show (65536 : Int) ≠ 0 by decide)
  have m1 := Int.emod_lt_of_pos a (show (0 : Int) < 65536 by decide)
  split at h <;> simp at h <;> omega
attribute [local irreducible] sinV
set_option maxRecDepth 100000 in
set_option maxHeartbeats 1000000 in
theorem f_sin (a : Int) (w : World) : Calls Try.prog 11 #[.int .i64 a] w fun e w' => e = .returned (.int .i64 (sinZ a)) ∧ w = w' := by
  have e1 := and_mask a
  have e2 := and_mask2 (a % 65536)
  have e3 : a % 65536 % 32768 = a % 32768 := by omega
  rw [e3] at e2
  obtain ⟨v0, v1, v2⟩ := sinV_bd (a % 32768) (by omega) (by omega)
  obtain ⟨p0, p1⟩ := par_bd (a % 32768) (by omega) (by omega)
  have n0 : 0 ≤ a % 65536 := by omega
  have n1 : a % 65536 ≤ 65535 := by omega
  have x0 : 0 ≤ a % 32768 := by omega
  have x1 : a % 32768 ≤ 32767 := by omega
  unfold sinZ
  clear e3
  generalize a % 65536 = n at *
  generalize a % 32768 = x at *
  generalize sinV x = v at *
  by_cases c : 32768 ≤ n
  · rw [if_pos c]
    have d : decide (n ≥ 32768) = true := decide_eq_true c
    go_enter Try.func11, Try.ntmps11
    go_wp2_with fail
    go_ret
    exact ⟨rfl, rfl⟩
  · rw [if_neg c]
    have d : decide (n ≥ 32768) = false := decide_eq_false c
    go_enter Try.func11, Try.ntmps11
    go_wp2_with fail
    go_ret
    exact ⟨rfl, rfl⟩
set_option maxRecDepth 100000 in
set_option maxHeartbeats 1000000 in
theorem rf_sin (a : Int) (w : World) : Calls Try.prog 12 #[.int .i64 a] w fun e w' => e = .returned (.int .i64 (sinZ a)) ∧ w = w' := by
  have ht := tmod_turn a
  have e3 : a % 65536 % 32768 = a % 32768 := by omega
  have e4 : (a % 65536).tmod 32768 = a % 32768 := by rw [Int.tmod_eq_emod_of_nonneg (by omega)]; exact e3
  obtain ⟨v0, v1, v2⟩ := sinV_bd (a % 32768) (by omega) (by omega)
  obtain ⟨p0, p1⟩ := par_bd (a % 32768) (by omega) (by omega)
  have n0 : 0 ≤ a % 65536 := by omega
  have n1 : a % 65536 ≤ 65535 := by omega
  have x0 : 0 ≤ a % 32768 := by omega
  have x1 : a % 32768 ≤ 32767 := by omega
  unfold sinZ
  clear e3
  generalize a % 65536 = n at *
  generalize a % 32768 = x at *
  generalize sinV x = v at *
  generalize htt : a.tmod 65536 = t at *
  rcases ht with ⟨h1, h2⟩ | ⟨h1, h2⟩
  · have d0 : decide (t < 0) = true := decide_eq_true h1
    by_cases c : 32768 ≤ n
    · rw [if_pos c]
      have d : decide (n ≥ 32768) = true := decide_eq_true c
      go_enter Try.func12, Try.ntmps12
      go_wp2_with fail
      go_ret
      exact ⟨rfl, rfl⟩
    · rw [if_neg c]
      have d : decide (n ≥ 32768) = false := decide_eq_false c
      go_enter Try.func12, Try.ntmps12
      go_wp2_with fail
      go_ret
      exact ⟨rfl, rfl⟩
  · subst h2
    have d0 : decide (t < 0) = false := decide_eq_false (by omega)
    by_cases c : 32768 ≤ t
    · rw [if_pos c]
      have d : decide (t ≥ 32768) = true := decide_eq_true c
      go_enter Try.func12, Try.ntmps12
      go_wp2_with fail
      go_ret
      exact ⟨rfl, rfl⟩
    · rw [if_neg c]
      have d : decide (t ≥ 32768) = false := decide_eq_false c
      go_enter Try.func12, Try.ntmps12
      go_wp2_with fail
      go_ret
      exact ⟨rfl, rfl⟩
end Go.Proofs.Ytangfbahljdbhaa

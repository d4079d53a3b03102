/- The contracts of package backstayref01 that tell quotients and numbers going round. Conditions: the arguments are numbers of their kinds. -/
import Derived.Test.YtangfbahljdbhaaWord
namespace Go.Proofs.Ytangfbahljdbhaa
open Go.RowKit
attribute [local irreducible] satZ floorZ restZ behindZ

theorem floor_m1_most : 9223372036854775807 = floorZ (-9223372036854775808) (-1) := by decide +kernel
theorem floor_m1_in (a : Int) (ha : I64 a) (h : a ≠ -9223372036854775808) : -a = floorZ a (-1) := by
  obtain ⟨a1, a2⟩ := ha
  rw [← floor_m1, satZ_in _ (by omega) (by omega)]

set_option maxHeartbeats 400000 in
theorem r_floor (a b : Int) (w : World) (ha : I64 a) (hb : I64 b) :
    Calls Try.prog 20 #[.int .i64 a, .int .i64 b] w fun e w' => e = .returned (.int .i64 (floorZ a b)) ∧ w = w' := by
  obtain ⟨a1, a2⟩ := ha
  obtain ⟨b1, b2⟩ := hb
  by_cases b0 : b = 0
  · subst b0
    go_enter Try.func20, Try.ntmps20
    go_wp2_with fail
    go_ret
    exact ⟨ret_int (floor_0 a), rfl⟩
  · by_cases bm : b = -1
    · subst bm
      by_cases al : a = -9223372036854775808
      · subst al
        go_enter Try.func20, Try.ntmps20
        go_wp2_with fail
        go_ret
        exact ⟨ret_int floor_m1_most, rfl⟩
      · have e2 : (a == -9223372036854775808) = false := by simp; exact al
        go_enter Try.func20, Try.ntmps20
        go_wp2_with fail
        all_goals
          go_ret
          exact ⟨ret_int (floor_m1_in a ⟨a1, a2⟩ al), rfl⟩
    · have e0 : (b == 0) = false := by simp; exact b0
      have e1 : (b == -1) = false := by simp; exact bm
      obtain ⟨B, hB⟩ : ∃ B, (a == -9223372036854775808) = B := ⟨_, rfl⟩
      go_enter Try.func20, Try.ntmps20
      go_wp2_with fail
      all_goals
        first
          | (have h : a.tmod b = 0 := by assumption
             go_ret
             exact ⟨ret_int (floor_same a b ⟨a1, a2⟩ b0 bm (fun e => e.1 h)), rfl⟩)
          | (have h := two_signs ‹(a.tmod b != 0) = true ∧ (!decide (a < 0) == decide (b < 0)) = true›
             go_ret
             exact ⟨ret_int (floor_less a b ⟨a1, a2⟩ b0 bm h), rfl⟩)
          | (have h := one_sign ‹(a.tmod b != 0) = false ∨ (!decide (a < 0) == decide (b < 0)) = false›
             go_ret
             exact ⟨ret_int (floor_same a b ⟨a1, a2⟩ b0 bm h), rfl⟩)

set_option maxHeartbeats 400000 in
theorem r_rest (a b : Int) (w : World) (hb : I64 b) :
    Calls Try.prog 21 #[.int .i64 a, .int .i64 b] w fun e w' => e = .returned (.int .i64 (restZ a b)) ∧ w = w' := by
  obtain ⟨b1, b2⟩ := hb
  by_cases b0 : b = 0
  · subst b0
    go_enter Try.func21, Try.ntmps21
    go_wp2_with fail
    go_ret
    exact ⟨ret_int (rest_0 a), rfl⟩
  · have e0 : (b == 0) = false := by simp; exact b0
    by_cases bm : b = -1
    · subst bm
      go_enter Try.func21, Try.ntmps21
      go_wp2_with fail
      go_ret
      exact ⟨ret_int (rest_m1 a), rfl⟩
    · have e1 : (b == -1) = false := by simp; exact bm
      go_enter Try.func21, Try.ntmps21
      go_wp2_with fail
      all_goals
        first
          | (have h : a.tmod b = 0 := by assumption
             go_ret
             exact ⟨ret_int ((show (0 : Int) = a.tmod b from h.symm).trans (rest_same a b b0 (fun e => e.1 h))), rfl⟩)
          | (have h := two_signs ‹(a.tmod b != 0) = true ∧ (!decide (a.tmod b < 0) == decide (b < 0)) = true›
             go_ret
             exact ⟨ret_int (rest_more a b b0 ⟨b1, b2⟩ h), rfl⟩)
          | (have h := one_sign ‹(a.tmod b != 0) = false ∨ (!decide (a.tmod b < 0) == decide (b < 0)) = false›
             go_ret
             exact ⟨ret_int (rest_same a b b0 h), rfl⟩)

theorem behind_hi (a b : Int) (ha : 0 ≤ a ∧ a < 4294967296) (hb : 0 ≤ b ∧ b < 4294967296) (h : 2147483648 ≤ a - b) : a - b - 4294967296 = behindZ a b := by
  unfold behindZ; split <;> omega
theorem behind_lo (a b : Int) (ha : 0 ≤ a ∧ a < 4294967296) (hb : 0 ≤ b ∧ b < 4294967296) (h : a - b < -2147483648) : a - b + 4294967296 = behindZ a b := by
  unfold behindZ; split <;> omega
theorem behind_mid (a b : Int) (h1 : -2147483648 ≤ a - b) (h : a - b < 2147483648) : a - b = behindZ a b := by
  unfold behindZ; split <;> omega
end Go.Proofs.Ytangfbahljdbhaa

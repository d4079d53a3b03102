/- The walk of the law FixedDivides: it answers true for every two numbers. -/
import Derived.Test.YtangfbahljdbhaaFixed5
import Derived.Test.YtangfbahljdbhaaFixed6
namespace Go.Proofs.Ytangfbahljdbhaa
open Go.RowKit
theorem fl_parts (a b : Int) (b0 : b ≠ 0) : ∃ F : Int, F * b + restZ a b = a ∧ floorZ a b = satZ F := by
  refine ⟨a.fdiv b, ?_, ?_⟩
  · unfold restZ; rw [if_neg b0, Int.mul_comm]; exact Int.mul_fdiv_add_fmod a b
  · unfold floorZ; rw [if_neg b0]
theorem sat_hi (F : Int) (h : 140737488355327 < satZ F) : 140737488355328 ≤ F := by unfold satZ at h; repeat (split at h); all_goals omega
theorem sat_lo (F : Int) (h : satZ F < -140737488355328) : F + 1 ≤ -140737488355328 := by unfold satZ at h; repeat (split at h); all_goals omega
theorem sat_in (F : Int) (h1 : ¬ 140737488355327 < satZ F) (h2 : ¬ satZ F < -140737488355328) : satZ F = F ∧ -140737488355328 ≤ F ∧ F ≤ 140737488355327 := by
  unfold satZ at *; repeat (split at h1); all_goals (simp_all; try omega)
theorem q_mul (F D b : Int) : (F * 65536 + D) * b = F * b * 65536 + D * b := by rw [Int.add_mul, Int.mul_right_comm]
theorem q_mul1 (q b : Int) : (q + 1) * b = q * b + b := by rw [Int.add_mul, Int.one_mul]
theorem dvl_pos (a b q : Int) (hb : 0 < b) (hq : q = divZ a b) : I64 q ∧ (q ≠ -9223372036854775808 → q * b ≤ a * 65536) ∧ (q ≠ 9223372036854775807 → a * 65536 < (q + 1) * b) := by
  obtain ⟨F, h1, h2⟩ := fl_parts a b (by omega)
  have h3 := dv_pos a b hb
  unfold divZ at hq
  rw [if_neg (by omega), h2] at hq
  generalize restZ a b = r at *
  rw [q_mul1]
  by_cases c1 : 140737488355327 < satZ F
  · rw [if_pos c1] at hq; subst hq
    have := Int.mul_le_mul_of_nonneg_right (sat_hi F c1) (Int.le_of_lt hb)
    refine ⟨⟨by omega, by omega⟩, fun _ => by omega, fun h => absurd rfl h⟩
  rw [if_neg c1] at hq
  by_cases c2 : satZ F < -140737488355328
  · rw [if_pos c2] at hq; subst hq
    have := Int.mul_le_mul_of_nonneg_right (sat_lo F c2) (Int.le_of_lt hb)
    rw [q_mul1] at this
    refine ⟨⟨by omega, by omega⟩, fun h => absurd rfl h, fun _ => by omega⟩
  rw [if_neg c2] at hq
  obtain ⟨e, g1, g2⟩ := sat_in F c1 c2
  rw [e, show (b.natAbs : Int) = b by omega, show (r.natAbs : Int) = r by omega] at hq
  have e1 := Int.mul_ediv_add_emod (r * 65536) b
  have e2 := Int.emod_nonneg (r * 65536) (show b ≠ 0 by omega)
  have e3 := Int.emod_lt_of_pos (r * 65536) hb
  have e4 : 0 ≤ r * 65536 / b := Int.ediv_nonneg (by omega) (by omega)
  have e5 : r * 65536 / b < 65536 := Int.ediv_lt_of_lt_mul hb (by rw [Int.mul_comm 65536 b]; have := Int.mul_lt_mul_of_pos_right h3.2 (show (0 : Int) < 65536 by decide); exact this)
  generalize r * 65536 / b = D at *
  generalize r * 65536 % b = E at *
  subst hq
  rw [q_mul, Int.mul_comm D b]
  generalize b * D = X at *
  refine ⟨⟨by omega, by omega⟩, fun _ => by omega, fun _ => by omega⟩
theorem dvl_neg (a b q : Int) (hb : b < 0) (hq : q = divZ a b) : I64 q ∧ (q ≠ -9223372036854775808 → a * 65536 ≤ q * b) ∧ (q ≠ 9223372036854775807 → (q + 1) * b < a * 65536) := by
  obtain ⟨F, h1, h2⟩ := fl_parts a b (by omega)
  have h3 := dv_neg a b hb
  unfold divZ at hq
  rw [if_neg (by omega), h2] at hq
  generalize restZ a b = r at *
  rw [q_mul1]
  by_cases c1 : 140737488355327 < satZ F
  · rw [if_pos c1] at hq; subst hq
    have := Int.mul_le_mul_of_nonpos_right (sat_hi F c1) (Int.le_of_lt hb)
    refine ⟨⟨by omega, by omega⟩, fun _ => by omega, fun h => absurd rfl h⟩
  rw [if_neg c1] at hq
  by_cases c2 : satZ F < -140737488355328
  · rw [if_pos c2] at hq; subst hq
    have := Int.mul_le_mul_of_nonpos_right (sat_lo F c2) (Int.le_of_lt hb)
    rw [q_mul1] at this
    refine ⟨⟨by omega, by omega⟩, fun h => absurd rfl h, fun _ => by omega⟩
  rw [if_neg c2] at hq
  obtain ⟨e, g1, g2⟩ := sat_in F c1 c2
  obtain ⟨y, hy⟩ : ∃ y : Int, y = -b := ⟨_, rfl⟩
  obtain ⟨s, hs⟩ : ∃ s : Int, s = -r := ⟨_, rfl⟩
  rw [e, show (b.natAbs : Int) = y by omega, show (r.natAbs : Int) = s by omega] at hq
  have hb' : 0 < y := by omega
  have e1 := Int.mul_ediv_add_emod (s * 65536) y
  have e2 := Int.emod_nonneg (s * 65536) (show y ≠ 0 by omega)
  have e3 := Int.emod_lt_of_pos (s * 65536) hb'
  have e4 : 0 ≤ s * 65536 / y := Int.ediv_nonneg (by omega) (by omega)
  have e5 : s * 65536 / y < 65536 := Int.ediv_lt_of_lt_mul hb' (by rw [Int.mul_comm 65536 y]; have := Int.mul_lt_mul_of_pos_right (show s < y by omega) (show (0 : Int) < 65536 by decide); exact this)
  generalize s * 65536 / y = D at *
  generalize s * 65536 % y = E at *
  subst hq
  have e6 : y * D = -(D * b) := by rw [hy, Int.neg_mul, Int.mul_comm]
  rw [q_mul]
  generalize D * b = X at *
  refine ⟨⟨by omega, by omega⟩, fun _ => by omega, fun _ => by omega⟩
attribute [local irreducible] divZ
set_option maxRecDepth 100000 in
set_option maxHeartbeats 1000000 in
theorem fixedDivides_walk (a0 : Int) (a1 : Int) (w : World) (w0 : (Lit.int .i64 a0).wf = true) (w1 : (Lit.int .i64 a1).wf = true) :
    Calls Try.prog 7 #[.int .i64 a0, .int .i64 a1] w fun e w' => e = .returned (.bool true) ∧ Below w.heap.size w w' := by
  have hA := i64_bd w0
  have hB := i64_bd w1
  have ha := Lib.hid (fx_awake w)
  have k1 := Lib.hid (f_div a0 a1 w hA hB)
  have h6 : I64 65536 := ⟨by decide, by decide⟩
  clear w0 w1
  by_cases hz : a1 = 0
  · subst hz
    have e0 : divZ a0 0 = 0 := by unfold divZ; rw [if_pos rfl]
    rw [e0] at k1
    clear e0
    go_enter Try.func7, Try.ntmps7
    go_wp2_with fail
    refine ha.out.mono ?_
    rintro e w' ⟨rfl, rfl⟩
    go_wp2_with fail
    refine k1.out.mono ?_
    rintro e w' ⟨rfl, rfl⟩
    go_wp2_with fail
    go_ret
    exact ⟨rfl, Below.refl _ _⟩
  have dz : (a1 == 0) = false := by simp; exact hz
  obtain ⟨q, hq⟩ : ∃ q : Int, q = divZ a0 a1 := ⟨_, rfl⟩
  rw [← hq] at k1
  by_cases hp : a1 < 0
  · have dn : decide (a1 < 0) = true := decide_eq_true hp
    obtain ⟨p1, p2, p3⟩ := dvl_neg a0 a1 q hp hq
    have v1 := fun X => rf_above q a1 a0 65536 X p1 hB hA h6
    have v2 := fun X => rf_above a0 65536 q a1 X hA h6 p1 hB
    generalize decide (a0 * 65536 < q * a1) = B1 at v1
    clear hq
    by_cases c1 : q = -9223372036854775808
    · have d1 : (q == -9223372036854775808) = true := by simp; exact c1
      have v3 := fun X => rf_above (q + 1) a1 a0 65536 X ⟨by omega, by omega⟩ hB hA h6
      have v4 := fun X => rf_above a0 65536 (q + 1) a1 X hA h6 ⟨by omega, by omega⟩ hB
      rw [decide_eq_true (p3 (by omega))] at v4
      generalize decide (a0 * 65536 < (q + 1) * a1) = B3 at v3
      generalize decide (q * a1 < a0 * 65536) = B2 at v2
      have i1 := p1.1
      have i2 : q < 9223372036854775807 := by omega
      have v1 := Lib.hid v1
      have v2 := Lib.hid v2
      have v3 := Lib.hid v3
      have v4 := Lib.hid v4
      clear c1 p1 p2 p3 hA hB h6
      go_enter Try.func7, Try.ntmps7
      go_wp2_with fail
      refine ha.out.mono ?_
      rintro e w' ⟨rfl, rfl⟩
      go_wp2_with fail
      refine k1.out.mono ?_
      rintro e w' ⟨rfl, rfl⟩
      go_wp2_with fail
      refine (v1.out _).mono ?_
      rintro e w1 ⟨rfl, hB1⟩
      go_wp2_with fail
      refine (v2.out _).mono ?_
      rintro e w2 ⟨rfl, hB2⟩
      go_wp2_with fail
      refine (v3.out _).mono ?_
      rintro e w3 ⟨rfl, hB3⟩
      go_wp2_with fail
      refine (v4.out _).mono ?_
      rintro e w4 ⟨rfl, hB4⟩
      go_wp2_with fail
      go_ret
      have hb2 := hB1.trans (hB2.mono hB1.size)
      have hb3 := hb2.trans (hB3.mono hb2.size)
      exact ⟨rfl, hb3.trans (hB4.mono hb3.size)⟩
    have d1 : (q == -9223372036854775808) = false := by simp; exact c1
    rw [decide_eq_false (by have := p2 c1; omega : ¬ q * a1 < a0 * 65536)] at v2
    by_cases c2 : q = 9223372036854775807
    · have d2 : (q == 9223372036854775807) = true := by simp; exact c2
      have v1 := Lib.hid v1
      have v2 := Lib.hid v2
      clear c1 c2 p1 p2 p3 hA hB h6
      go_enter Try.func7, Try.ntmps7
      go_wp2_with fail
      refine ha.out.mono ?_
      rintro e w' ⟨rfl, rfl⟩
      go_wp2_with fail
      refine k1.out.mono ?_
      rintro e w' ⟨rfl, rfl⟩
      go_wp2_with fail
      refine (v1.out _).mono ?_
      rintro e w1 ⟨rfl, hB1⟩
      go_wp2_with fail
      refine (v2.out _).mono ?_
      rintro e w2 ⟨rfl, hB2⟩
      go_wp2_with fail
      go_ret
      exact ⟨rfl, hB1.trans (hB2.mono hB1.size)⟩
    have d2 : (q == 9223372036854775807) = false := by simp; exact c2
    have i1 := p1.1
    have i2 : q < 9223372036854775807 := by have := p1.2; omega
    have v4 := fun X => rf_above a0 65536 (q + 1) a1 X hA h6 ⟨by omega, by omega⟩ hB
    rw [decide_eq_true (p3 c2)] at v4
    have v1 := Lib.hid v1
    have v2 := Lib.hid v2
    have v4 := Lib.hid v4
    clear c1 c2 p1 p2 p3 hA hB h6
    go_enter Try.func7, Try.ntmps7
    go_wp2_with fail
    refine ha.out.mono ?_
    rintro e w' ⟨rfl, rfl⟩
    go_wp2_with fail
    refine k1.out.mono ?_
    rintro e w' ⟨rfl, rfl⟩
    go_wp2_with fail
    refine (v1.out _).mono ?_
    rintro e w1 ⟨rfl, hB1⟩
    go_wp2_with fail
    refine (v2.out _).mono ?_
    rintro e w2 ⟨rfl, hB2⟩
    go_wp2_with fail
    refine (v4.out _).mono ?_
    rintro e w4 ⟨rfl, hB4⟩
    go_wp2_with fail
    go_ret
    have hb2 := hB1.trans (hB2.mono hB1.size)
    exact ⟨rfl, hb2.trans (hB4.mono hb2.size)⟩
  have dn : decide (a1 < 0) = false := decide_eq_false hp
  obtain ⟨p1, p2, p3⟩ := dvl_pos a0 a1 q (by omega) hq
  have v1 := fun X => rf_above q a1 a0 65536 X p1 hB hA h6
  clear hq
  by_cases c1 : q = -9223372036854775808
  · have d1 : (q == -9223372036854775808) = true := by simp; exact c1
    have v3 := fun X => rf_above (q + 1) a1 a0 65536 X ⟨by omega, by omega⟩ hB hA h6
    rw [decide_eq_true (p3 (by omega))] at v3
    generalize decide (a0 * 65536 < q * a1) = B1 at v1
    have i1 := p1.1
    have i2 : q < 9223372036854775807 := by omega
    have v1 := Lib.hid v1
    have v3 := Lib.hid v3
    clear c1 p1 p2 p3 hA hB h6
    go_enter Try.func7, Try.ntmps7
    go_wp2_with fail
    refine ha.out.mono ?_
    rintro e w' ⟨rfl, rfl⟩
    go_wp2_with fail
    refine k1.out.mono ?_
    rintro e w' ⟨rfl, rfl⟩
    go_wp2_with fail
    refine (v1.out _).mono ?_
    rintro e w1 ⟨rfl, hB1⟩
    go_wp2_with fail
    refine (v3.out _).mono ?_
    rintro e w3 ⟨rfl, hB3⟩
    go_wp2_with fail
    go_ret
    exact ⟨rfl, hB1.trans (hB3.mono hB1.size)⟩
  have d1 : (q == -9223372036854775808) = false := by simp; exact c1
  rw [decide_eq_false (by have := p2 c1; omega : ¬ a0 * 65536 < q * a1)] at v1
  by_cases c2 : q = 9223372036854775807
  · have d2 : (q == 9223372036854775807) = true := by simp; exact c2
    have v1 := Lib.hid v1
    clear c1 c2 p1 p2 p3 hA hB h6
    go_enter Try.func7, Try.ntmps7
    go_wp2_with fail
    refine ha.out.mono ?_
    rintro e w' ⟨rfl, rfl⟩
    go_wp2_with fail
    refine k1.out.mono ?_
    rintro e w' ⟨rfl, rfl⟩
    go_wp2_with fail
    refine (v1.out _).mono ?_
    rintro e w1 ⟨rfl, hB1⟩
    go_wp2_with fail
    go_ret
    exact ⟨rfl, hB1⟩
  have d2 : (q == 9223372036854775807) = false := by simp; exact c2
  have i1 := p1.1
  have i2 : q < 9223372036854775807 := by have := p1.2; omega
  have v4 := fun X => rf_above (q + 1) a1 a0 65536 X ⟨by omega, by omega⟩ hB hA h6
  rw [decide_eq_true (p3 c2)] at v4
  have v1 := Lib.hid v1
  have v4 := Lib.hid v4
  clear c1 c2 p1 p2 p3 hA hB h6
  go_enter Try.func7, Try.ntmps7
  go_wp2_with fail
  refine ha.out.mono ?_
  rintro e w' ⟨rfl, rfl⟩
  go_wp2_with fail
  refine k1.out.mono ?_
  rintro e w' ⟨rfl, rfl⟩
  go_wp2_with fail
  refine (v1.out _).mono ?_
  rintro e w1 ⟨rfl, hB1⟩
  go_wp2_with fail
  refine (v4.out _).mono ?_
  rintro e w4 ⟨rfl, hB4⟩
  go_wp2_with fail
  go_ret
  exact ⟨rfl, hB1.trans (hB4.mono hB1.size)⟩
end Go.Proofs.Ytangfbahljdbhaa

/- The walk of the law FixedMoves: it answers true for every three numbers. -/
import Derived.Test.YtangfbahljdbhaaFixed3
import Derived.Test.YtangfbahljdbhaaRSub
namespace Go.Proofs.Ytangfbahljdbhaa
open Go.RowKit
def towZ (a t m : Int) : Int := if a < t then min (satZ (a + max m 0)) t else max (satZ (a - max m 0)) t
def lerpZ (a b m : Int) : Int := satZ (a + fmulZ (satZ (b - a) * clampZ m 0 65536))
def nearZ (a b m : Int) : Bool := decide (0 ≤ m) && decide (satZ ((satZ (a - b)).natAbs) ≤ m)
theorem tow_law (a t m : Int) (ha : I64 a) (ht : I64 t) : (a ≤ t → a ≤ towZ a t m ∧ towZ a t m ≤ t) ∧ (t < a → towZ a t m ≤ a ∧ t ≤ towZ a t m) := by
  obtain ⟨a0, a1⟩ := ha
  obtain ⟨t0, t1⟩ := ht
  unfold towZ satZ
  constructor <;> intro h <;> split <;> (try split) <;> (try split) <;> omega
theorem satZ_I (x : Int) : I64 (satZ x) := satZ_bd x
theorem fmul_I (z : Int) : I64 (fmulZ z) := by
  have h := lo_bd z
  unfold fmulZ
  constructor <;> split <;> (try split) <;> omega
theorem clamp_I (m : Int) : I64 (clampZ m 0 65536) := by
  have := clampZ_bd m 0 65536 (by decide)
  exact ⟨by omega, by omega⟩
attribute [local irreducible] satZ fmulZ clampZ
set_option maxRecDepth 100000 in
set_option maxHeartbeats 1000000 in
theorem f_toward (a t m : Int) (w : World) (ha : I64 a) (ht : I64 t) (hm : I64 m) :
    Calls Try.prog 24 #[.int .i64 a, .int .i64 t, .int .i64 m] w fun e w' => e = .returned (.int .i64 (towZ a t m)) ∧ w = w' := by
  obtain ⟨m0, m1⟩ := hm
  have k1 := Lib.hid (w_add a (max m 0) w ha ⟨by omega, by omega⟩)
  have k2 := Lib.hid (w_sub a (max m 0) w ha ⟨by omega, by omega⟩)
  unfold towZ
  clear ha ht
  generalize satZ (a + max m 0) = z1 at *
  generalize satZ (a - max m 0) = z2 at *
  by_cases hz : m < 0
  · have dz : decide (m < 0) = true := decide_eq_true hz
    rw [show max m 0 = 0 from by omega] at k1 k2
    have mz := hz
    by_cases h : a < t
    · rw [if_pos h]
      have d : decide (a < t) = true := decide_eq_true h
      clear k2 h
      go_enter Try.func24, Try.ntmps24
      go_wp2_with fail
      refine k1.out.mono ?_
      rintro e w' ⟨rfl, rfl⟩
      go_wp2_with fail
      all_goals
        go_ret
        exact ⟨ret_int (by omega), rfl⟩
    · rw [if_neg h]
      have d : decide (a < t) = false := decide_eq_false h
      clear k1 h
      go_enter Try.func24, Try.ntmps24
      go_wp2_with fail
      refine k2.out.mono ?_
      rintro e w' ⟨rfl, rfl⟩
      go_wp2_with fail
      all_goals
        go_ret
        exact ⟨ret_int (by omega), rfl⟩
  · have dz : decide (m < 0) = false := decide_eq_false hz
    rw [show max m 0 = m from by omega] at k1 k2
    have mz := hz
    by_cases h : a < t
    · rw [if_pos h]
      have d : decide (a < t) = true := decide_eq_true h
      clear k2 h
      go_enter Try.func24, Try.ntmps24
      go_wp2_with fail
      refine k1.out.mono ?_
      rintro e w' ⟨rfl, rfl⟩
      go_wp2_with fail
      all_goals
        go_ret
        exact ⟨ret_int (by omega), rfl⟩
    · rw [if_neg h]
      have d : decide (a < t) = false := decide_eq_false h
      clear k1 h
      go_enter Try.func24, Try.ntmps24
      go_wp2_with fail
      refine k2.out.mono ?_
      rintro e w' ⟨rfl, rfl⟩
      go_wp2_with fail
      all_goals
        go_ret
        exact ⟨ret_int (by omega), rfl⟩
set_option maxRecDepth 100000 in
set_option maxHeartbeats 1000000 in
theorem rf_toward (a t m : Int) (w : World) (ha : I64 a) (ht : I64 t) (hm : I64 m) :
    Calls Try.prog 28 #[.int .i64 a, .int .i64 t, .int .i64 m] w fun e w' => e = .returned (.int .i64 (towZ a t m)) ∧ Below w.heap.size w w' := by
  obtain ⟨m0, m1⟩ := hm
  have k1 := Lib.hid (r_add a (max m 0) w ha ⟨by omega, by omega⟩)
  have k2 := Lib.hid (r_sub a (max m 0) w ha ⟨by omega, by omega⟩)
  unfold towZ
  clear ha ht
  generalize satZ (a + max m 0) = z1 at *
  generalize satZ (a - max m 0) = z2 at *
  by_cases hz : m < 0
  · have dz : decide (m < 0) = true := decide_eq_true hz
    rw [show max m 0 = 0 from by omega] at k1 k2
    have mz := hz
    by_cases h : a < t
    · rw [if_pos h]
      have d : decide (a < t) = true := decide_eq_true h
      clear k2 h
      go_enter Try.func28, Try.ntmps28
      go_wp2_with fail
      refine k1.out.mono ?_
      rintro e w' ⟨rfl, hB⟩
      go_wp2_with fail
      all_goals
        go_ret
        exact ⟨ret_int (by omega), hB⟩
    · rw [if_neg h]
      have d : decide (a < t) = false := decide_eq_false h
      clear k1 h
      go_enter Try.func28, Try.ntmps28
      go_wp2_with fail
      refine k2.out.mono ?_
      rintro e w' ⟨rfl, hB⟩
      go_wp2_with fail
      all_goals
        go_ret
        exact ⟨ret_int (by omega), hB⟩
  · have dz : decide (m < 0) = false := decide_eq_false hz
    rw [show max m 0 = m from by omega] at k1 k2
    have mz := hz
    by_cases h : a < t
    · rw [if_pos h]
      have d : decide (a < t) = true := decide_eq_true h
      clear k2 h
      go_enter Try.func28, Try.ntmps28
      go_wp2_with fail
      refine k1.out.mono ?_
      rintro e w' ⟨rfl, hB⟩
      go_wp2_with fail
      all_goals
        go_ret
        exact ⟨ret_int (by omega), hB⟩
    · rw [if_neg h]
      have d : decide (a < t) = false := decide_eq_false h
      clear k1 h
      go_enter Try.func28, Try.ntmps28
      go_wp2_with fail
      refine k2.out.mono ?_
      rintro e w' ⟨rfl, hB⟩
      go_wp2_with fail
      all_goals
        go_ret
        exact ⟨ret_int (by omega), hB⟩
set_option maxRecDepth 100000 in
set_option maxHeartbeats 1000000 in
theorem f_lerp (a b m : Int) (w : World) (ha : I64 a) (hb : I64 b) :
    Calls Try.prog 25 #[.int .i64 a, .int .i64 b, .int .i64 m] w fun e w' => e = .returned (.int .i64 (lerpZ a b m)) ∧ w = w' := by
  have k1 := Lib.hid (w_clamp m 0 65536 w)
  have k2 := Lib.hid (w_sub b a w hb ha)
  have k3 := Lib.hid (f_mul (satZ (b - a)) (clampZ m 0 65536) w (satZ_I _) (clamp_I _))
  have k4 := Lib.hid (w_add a (fmulZ (satZ (b - a) * clampZ m 0 65536)) w ha (fmul_I _))
  unfold lerpZ
  clear ha hb
  generalize satZ (a + fmulZ (satZ (b - a) * clampZ m 0 65536)) = z4 at *
  generalize fmulZ (satZ (b - a) * clampZ m 0 65536) = z3 at *
  generalize satZ (b - a) = z2 at *
  generalize clampZ m 0 65536 = z1 at *
  go_enter Try.func25, Try.ntmps25
  go_wp2_with fail
  refine k1.out.mono ?_
  rintro e w' ⟨rfl, rfl⟩
  go_wp2_with fail
  refine k2.out.mono ?_
  rintro e w' ⟨rfl, rfl⟩
  go_wp2_with fail
  refine k3.out.mono ?_
  rintro e w' ⟨rfl, rfl⟩
  go_wp2_with fail
  refine k4.out.mono ?_
  rintro e w' ⟨rfl, rfl⟩
  go_wp2_with fail
  go_ret
  exact ⟨rfl, rfl⟩
set_option maxRecDepth 100000 in
theorem rf_clamp (m : Int) (w : World) :
    Calls Try.prog 46 #[.int .i64 m] w fun e w' => e = .returned (.int .i64 (clampZ m 0 65536)) ∧ w = w' := by
  have k1 := Lib.hid (r_clamp m 0 65536 w)
  go_enter Try.func46, Try.ntmps46
  go_wp2_with fail
  refine k1.out.mono ?_
  rintro e w' ⟨rfl, rfl⟩
  go_wp2_with fail
  go_ret
  exact ⟨rfl, rfl⟩
set_option maxRecDepth 100000 in
set_option maxHeartbeats 1000000 in
theorem rf_lerp (a b m : Int) (w : World) (ha : I64 a) (hb : I64 b) :
    Calls Try.prog 26 #[.int .i64 a, .int .i64 b, .int .i64 m] w fun e w' => e = .returned (.int .i64 (lerpZ a b m)) ∧ Below w.heap.size w w' := by
  have k1 := Lib.hid (fun X => rf_clamp m X)
  have k2 := Lib.hid (fun X => r_sub b a X hb ha)
  have k3 := Lib.hid (fun X => rf_mul (satZ (b - a)) (clampZ m 0 65536) X (satZ_I _) (clamp_I _))
  have k4 := Lib.hid (fun X => r_add a (fmulZ (satZ (b - a) * clampZ m 0 65536)) X ha (fmul_I _))
  unfold lerpZ
  clear ha hb
  generalize satZ (a + fmulZ (satZ (b - a) * clampZ m 0 65536)) = z4 at *
  generalize fmulZ (satZ (b - a) * clampZ m 0 65536) = z3 at *
  generalize satZ (b - a) = z2 at *
  generalize clampZ m 0 65536 = z1 at *
  go_enter Try.func26, Try.ntmps26
  go_wp2_with fail
  refine (k2.out _).mono ?_
  rintro e w1 ⟨rfl, hB1⟩
  go_wp2_with fail
  refine (k1.out _).mono ?_
  rintro e w' ⟨rfl, rfl⟩
  go_wp2_with fail
  refine (k3.out _).mono ?_
  rintro e w2 ⟨rfl, hB2⟩
  go_wp2_with fail
  refine (k4.out _).mono ?_
  rintro e w3 ⟨rfl, hB3⟩
  go_wp2_with fail
  go_ret
  exact ⟨rfl, hB1.trans ((hB2.mono hB1.size).trans (hB3.mono (Nat.le_trans hB1.size hB2.size)))⟩
set_option maxRecDepth 100000 in
set_option maxHeartbeats 1000000 in
theorem f_near (a b m : Int) (w : World) (ha : I64 a) (hb : I64 b) :
    Calls Try.prog 27 #[.int .i64 a, .int .i64 b, .int .i64 m] w fun e w' => e = .returned (.bool (nearZ a b m)) ∧ w = w' := by
  have k1 := Lib.hid (w_sub a b w ha hb)
  have k2 := Lib.hid (w_abs (satZ (a - b)) w (satZ_I _))
  unfold nearZ
  clear ha hb
  generalize satZ ((satZ (a - b)).natAbs) = z2 at *
  generalize satZ (a - b) = z1 at *
  by_cases h : 0 ≤ m
  · have d : decide (0 ≤ m) = true := decide_eq_true h
    rw [d]
    go_enter Try.func27, Try.ntmps27
    go_wp2_with fail
    refine k1.out.mono ?_
    rintro e w' ⟨rfl, rfl⟩
    go_wp2_with fail
    refine k2.out.mono ?_
    rintro e w' ⟨rfl, rfl⟩
    go_wp2_with fail
    go_ret
    exact ⟨rfl, rfl⟩
  · have d : decide (0 ≤ m) = false := decide_eq_false h
    rw [d]
    go_enter Try.func27, Try.ntmps27
    go_wp2_with fail
    go_ret
    exact ⟨rfl, rfl⟩
attribute [local irreducible] towZ lerpZ nearZ
theorem near_yes (a b m : Int) (h : 0 ≤ m) : nearZ a b m = decide (satZ ((satZ (a - b)).natAbs) ≤ m) := by unfold nearZ; rw [decide_eq_true h, Bool.true_and]
theorem near_no (a b m : Int) (h : ¬ 0 ≤ m) : nearZ a b m = false := by unfold nearZ; rw [decide_eq_false h, Bool.false_and]
set_option maxRecDepth 100000 in
set_option maxHeartbeats 2000000 in
theorem fixedMoves_walk (a0 : Int) (a1 : Int) (a2 : Int) (w : World) (w0 : (Lit.int .i64 a0).wf = true) (w1 : (Lit.int .i64 a1).wf = true) (w2 : (Lit.int .i64 a2).wf = true) :
    Calls Try.prog 6 #[.int .i64 a0, .int .i64 a1, .int .i64 a2] w fun e w' => e = .returned (.bool true) ∧ Below w.heap.size w w' := by
  have b0 := i64_bd w0
  have b1 := i64_bd w1
  have b2 := i64_bd w2
  have hl := tow_law a0 a1 a2 b0 b1
  have k0 := Lib.hid (fx_awake w)
  have k1 := Lib.hid (fun X => r_sub a0 a1 X b0 b1)
  have k2 := Lib.hid (fun X => r_abs (satZ (a0 - a1)) X (satZ_I _))
  have k3 := Lib.hid (fun X => f_toward a0 a1 a2 X b0 b1 b2)
  have k4 := Lib.hid (fun X => f_lerp a0 a1 a2 X b0 b1)
  have k5 := Lib.hid (fun X => rf_lerp a0 a1 a2 X b0 b1)
  have k6 := Lib.hid (fun X => f_near a0 a1 a2 X b0 b1)
  have k7 := Lib.hid (fun X => rf_toward a0 a1 a2 X b0 b1 b2)
  obtain ⟨hl1, hl2⟩ := hl
  have hnear := Lib.hid (near_yes a0 a1 a2)
  have hnear2 := Lib.hid (near_no a0 a1 a2)
  clear w0 w1 w2 b0 b1 b2
  generalize towZ a0 a1 a2 = t at *
  generalize lerpZ a0 a1 a2 = l at *
  generalize satZ ((satZ (a0 - a1)).natAbs) = z2 at *
  generalize satZ (a0 - a1) = z1 at *
  by_cases hm : 0 ≤ a2
  · have dm : decide (a2 ≥ 0) = true := decide_eq_true hm
    rw [hnear.out hm] at k6
    clear hnear hnear2
    have hle : (a0 ≤ a1 ∧ a0 ≤ t ∧ t ≤ a1) ∨ (¬ a0 ≤ a1 ∧ t ≤ a0 ∧ a1 ≤ t) := by
      by_cases h : a0 ≤ a1
      · exact .inl ⟨h, hl1 h⟩
      · exact .inr ⟨h, hl2 (by omega)⟩
    clear hl1 hl2
    rcases hle with ⟨g0, g1, g2⟩ | ⟨g0, g1, g2⟩
    · go_enter Try.func6, Try.ntmps6
      go_wp2_with fail
      refine k0.out.mono ?_
      rintro e w' ⟨rfl, rfl⟩
      go_wp2_with fail
      refine (k1.out _).mono ?_
      rintro e w1 ⟨rfl, hB1⟩
      go_wp2_with fail
      refine (k2.out _).mono ?_
      rintro e w2 ⟨rfl, hB2⟩
      have hB := hB1.trans (hB2.mono hB1.size)
      clear hB1 hB2
      go_wp2_with fail
      refine (k3.out _).mono ?_
      rintro e w' ⟨rfl, rfl⟩
      go_wp2_with fail
      refine (k4.out _).mono ?_
      rintro e w' ⟨rfl, rfl⟩
      go_wp2_with fail
      refine (k5.out _).mono ?_
      rintro e w4 ⟨rfl, hB4⟩
      go_wp2_with fail
      refine (k6.out _).mono ?_
      rintro e w' ⟨rfl, rfl⟩
      go_wp2_with fail
      refine (k7.out _).mono ?_
      rintro e w5 ⟨rfl, hB5⟩
      go_wp2_with fail
      go_ret
      exact ⟨rfl, hB.trans ((hB4.mono hB.size).trans (hB5.mono (Nat.le_trans hB.size hB4.size)))⟩
    · go_enter Try.func6, Try.ntmps6
      go_wp2_with fail
      refine k0.out.mono ?_
      rintro e w' ⟨rfl, rfl⟩
      go_wp2_with fail
      refine (k1.out _).mono ?_
      rintro e w1 ⟨rfl, hB1⟩
      go_wp2_with fail
      refine (k2.out _).mono ?_
      rintro e w2 ⟨rfl, hB2⟩
      have hB := hB1.trans (hB2.mono hB1.size)
      clear hB1 hB2
      go_wp2_with fail
      refine (k3.out _).mono ?_
      rintro e w' ⟨rfl, rfl⟩
      go_wp2_with fail
      refine (k4.out _).mono ?_
      rintro e w' ⟨rfl, rfl⟩
      go_wp2_with fail
      refine (k5.out _).mono ?_
      rintro e w4 ⟨rfl, hB4⟩
      go_wp2_with fail
      refine (k6.out _).mono ?_
      rintro e w' ⟨rfl, rfl⟩
      go_wp2_with fail
      refine (k7.out _).mono ?_
      rintro e w5 ⟨rfl, hB5⟩
      go_wp2_with fail
      go_ret
      exact ⟨rfl, hB.trans ((hB4.mono hB.size).trans (hB5.mono (Nat.le_trans hB.size hB4.size)))⟩
  · have dm : decide (a2 ≥ 0) = false := decide_eq_false hm
    rw [hnear2.out hm] at k6
    clear hnear hnear2
    have hle : (a0 ≤ a1 ∧ a0 ≤ t ∧ t ≤ a1) ∨ (¬ a0 ≤ a1 ∧ t ≤ a0 ∧ a1 ≤ t) := by
      by_cases h : a0 ≤ a1
      · exact .inl ⟨h, hl1 h⟩
      · exact .inr ⟨h, hl2 (by omega)⟩
    clear hl1 hl2
    rcases hle with ⟨g0, g1, g2⟩ | ⟨g0, g1, g2⟩
    · go_enter Try.func6, Try.ntmps6
      go_wp2_with fail
      refine k0.out.mono ?_
      rintro e w' ⟨rfl, rfl⟩
      go_wp2_with fail
      refine (k3.out _).mono ?_
      rintro e w' ⟨rfl, rfl⟩
      go_wp2_with fail
      refine (k4.out _).mono ?_
      rintro e w' ⟨rfl, rfl⟩
      go_wp2_with fail
      refine (k5.out _).mono ?_
      rintro e w4 ⟨rfl, hB4⟩
      go_wp2_with fail
      refine (k6.out _).mono ?_
      rintro e w' ⟨rfl, rfl⟩
      go_wp2_with fail
      refine (k7.out _).mono ?_
      rintro e w5 ⟨rfl, hB5⟩
      go_wp2_with fail
      go_ret
      exact ⟨rfl, (Below.refl w.heap.size w).trans ((hB4.mono (Below.refl w.heap.size w).size).trans (hB5.mono (Nat.le_trans (Below.refl w.heap.size w).size hB4.size)))⟩
    · go_enter Try.func6, Try.ntmps6
      go_wp2_with fail
      refine k0.out.mono ?_
      rintro e w' ⟨rfl, rfl⟩
      go_wp2_with fail
      refine (k3.out _).mono ?_
      rintro e w' ⟨rfl, rfl⟩
      go_wp2_with fail
      refine (k4.out _).mono ?_
      rintro e w' ⟨rfl, rfl⟩
      go_wp2_with fail
      refine (k5.out _).mono ?_
      rintro e w4 ⟨rfl, hB4⟩
      go_wp2_with fail
      refine (k6.out _).mono ?_
      rintro e w' ⟨rfl, rfl⟩
      go_wp2_with fail
      refine (k7.out _).mono ?_
      rintro e w5 ⟨rfl, hB5⟩
      go_wp2_with fail
      go_ret
      exact ⟨rfl, (Below.refl w.heap.size w).trans ((hB4.mono (Below.refl w.heap.size w).size).trans (hB5.mono (Nat.le_trans (Below.refl w.heap.size w).size hB4.size)))⟩
end Go.Proofs.Ytangfbahljdbhaa

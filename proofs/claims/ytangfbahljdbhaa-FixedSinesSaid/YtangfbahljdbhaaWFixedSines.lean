/- The walk of the law FixedSines: it answers true for every angle. -/
import Derived.Test.YtangfbahljdbhaaFixed4
namespace Go.Proofs.Ytangfbahljdbhaa
open Go.RowKit
attribute [local irreducible] sinZ
set_option maxRecDepth 100000 in
theorem f_cos (a : Int) (w : World) (h0 : -2000000000000 ≤ a) (h1 : a ≤ 2000000000000) : Calls Try.prog 13 #[.int .i64 a] w fun e w' => e = .returned (.int .i64 (sinZ (a + 16384))) ∧ w = w' := by
  have hs := Lib.hid (f_sin (a + 16384) w)
  go_enter Try.func13, Try.ntmps13
  go_wp2_with fail
  refine hs.out.mono ?_
  rintro e w' ⟨rfl, rfl⟩
  go_wp2_with fail
  go_ret
  exact ⟨rfl, rfl⟩
set_option maxRecDepth 100000 in
set_option maxHeartbeats 1000000 in
theorem fixedSines_walk (a0 : Int) (w : World) (w0 : (Lit.int .i64 a0).wf = true) :
    Calls Try.prog 4 #[.int .i64 a0] w fun e w' => e = .returned (.bool true) ∧ Below w.heap.size w w' := by
  obtain ⟨b0, b1⟩ := i64_bd w0
  have ha := Lib.hid (fx_awake w)
  have k1 := Lib.hid (f_sin a0 w)
  have k2 := Lib.hid (rf_sin a0 w)
  have k3 := f_sin 16384 w
  rw [sin_q] at k3
  have k3 := Lib.hid k3
  have k4 := f_sin 0 w
  rw [sin_0] at k4
  have k4 := Lib.hid k4
  have k5 := f_sin (a0 + 32768) w
  rw [sin_half] at k5
  have k5 := Lib.hid k5
  have k7 := Lib.hid (rf_sin (a0 + 16384) w)
  obtain ⟨s0, s1⟩ := sin_bd a0
  have k6 := Lib.hid (f_cos a0 w)
  generalize sinZ a0 = s at *
  generalize sinZ (a0 + 16384) = c at *
  clear w0
  have tail : True := trivial
  by_cases h1 : a0 < -1099511627776
  · have d1 : decide (a0 < -1099511627776) = true := decide_eq_true h1
    go_enter Try.func4, Try.ntmps4
    go_wp2_with fail
    refine ha.out.mono ?_
    rintro e w' ⟨rfl, rfl⟩
    go_wp2_with fail
    refine k1.out.mono ?_
    rintro e w' ⟨rfl, rfl⟩
    go_wp2_with fail
    refine k2.out.mono ?_
    rintro e w' ⟨rfl, rfl⟩
    go_wp2_with fail
    refine k3.out.mono ?_
    rintro e w' ⟨rfl, rfl⟩
    go_wp2_with fail
    refine k4.out.mono ?_
    rintro e w' ⟨rfl, rfl⟩
    go_wp2_with fail
    go_ret
    exact ⟨rfl, Below.refl _ _⟩
  have d1 : decide (a0 < -1099511627776) = false := decide_eq_false h1
  by_cases h2 : a0 > 1099511627776
  · have d2 : decide (a0 > 1099511627776) = true := decide_eq_true h2
    go_enter Try.func4, Try.ntmps4
    go_wp2_with fail
    refine ha.out.mono ?_
    rintro e w' ⟨rfl, rfl⟩
    go_wp2_with fail
    refine k1.out.mono ?_
    rintro e w' ⟨rfl, rfl⟩
    go_wp2_with fail
    refine k2.out.mono ?_
    rintro e w' ⟨rfl, rfl⟩
    go_wp2_with fail
    refine k3.out.mono ?_
    rintro e w' ⟨rfl, rfl⟩
    go_wp2_with fail
    refine k4.out.mono ?_
    rintro e w' ⟨rfl, rfl⟩
    go_wp2_with fail
    go_ret
    exact ⟨rfl, Below.refl _ _⟩
  have d2 : decide (a0 > 1099511627776) = false := decide_eq_false h2
  have k6 := Lib.hid (k6.out (by omega) (by omega))
  go_enter Try.func4, Try.ntmps4
  go_wp2_with fail
  refine ha.out.mono ?_
  rintro e w' ⟨rfl, rfl⟩
  go_wp2_with fail
  refine k1.out.mono ?_
  rintro e w' ⟨rfl, rfl⟩
  go_wp2_with fail
  refine k2.out.mono ?_
  rintro e w' ⟨rfl, rfl⟩
  go_wp2_with fail
  refine k3.out.mono ?_
  rintro e w' ⟨rfl, rfl⟩
  go_wp2_with fail
  refine k4.out.mono ?_
  rintro e w' ⟨rfl, rfl⟩
  go_wp2_with fail
  refine k5.out.mono ?_
  rintro e w' ⟨rfl, rfl⟩
  go_wp2_with fail
  refine k6.out.mono ?_
  rintro e w' ⟨rfl, rfl⟩
  go_wp2_with fail
  refine k7.out.mono ?_
  rintro e w' ⟨rfl, rfl⟩
  go_wp2_with fail
  go_ret
  exact ⟨rfl, Below.refl _ _⟩
end Go.Proofs.Ytangfbahljdbhaa

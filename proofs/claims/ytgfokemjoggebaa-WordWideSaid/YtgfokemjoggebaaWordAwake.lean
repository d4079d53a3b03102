/- awake of backstaylaw01: it answers true, and turns nothing. No condition. -/
import Derived.Test.YtgfokemjoggebaaWord
namespace Go.Proofs.Ytgfokemjoggebaa
open Go.RowKit
theorem aw_floor (w : World) : Calls Try.prog 13 #[.int .i64 (-7), .int .i64 2] w fun e w' => e = .returned (.int .i64 (-4)) ∧ w = w' := by
  have h := w_floor (-7) 2 w ⟨by decide, by decide⟩ ⟨by decide, by decide⟩
  rw [show floorZ (-7) 2 = -4 from by decide +kernel] at h
  exact h
theorem aw_rest (w : World) : Calls Try.prog 15 #[.int .i64 (-7), .int .i64 2] w fun e w' => e = .returned (.int .i64 1) ∧ w = w' := by
  have h := w_rest (-7) 2 w ⟨by decide, by decide⟩ ⟨by decide, by decide⟩
  rw [show restZ (-7) 2 = 1 from by decide +kernel] at h
  exact h
theorem aw_add (w : World) : Calls Try.prog 35 #[.int .i64 9223372036854775807, .int .i64 1] w fun e w' => e = .returned (.int .i64 9223372036854775807) ∧ w = w' := by
  have h := w_add 9223372036854775807 1 w ⟨by decide, by decide⟩ ⟨by decide, by decide⟩
  rw [show satZ (9223372036854775807 + 1) = 9223372036854775807 from by decide +kernel] at h
  exact h
theorem aw_behind (w : World) : Calls Try.prog 17 #[.int .u32 1, .int .u32 4294967295] w fun e w' => e = .returned (.int .i64 2) ∧ w = w' := by
  have h := w_behind 1 4294967295 w
  rw [show behindZ 1 4294967295 = 2 from by decide +kernel] at h
  exact h
attribute [local irreducible] satZ floorZ restZ behindZ
set_option maxHeartbeats 400000 in
theorem word_awake (w : World) :
    Calls Try.prog 12 #[] w fun e w' => e = .returned (.bool true) ∧ w = w' := by
  go_enter Try.func12, Try.ntmps12
  go_wp2_with fail
  refine (aw_floor w).mono ?_
  rintro e w' ⟨rfl, rfl⟩
  go_wp2_with fail
  refine (aw_rest _).mono ?_
  rintro e w' ⟨rfl, rfl⟩
  go_wp2_with fail
  refine (aw_add _).mono ?_
  rintro e w' ⟨rfl, rfl⟩
  go_wp2_with fail
  refine (aw_behind _).mono ?_
  rintro e w' ⟨rfl, rfl⟩
  go_wp2_with fail
  go_ret
  exact ⟨rfl, rfl⟩
end Go.Proofs.Ytgfokemjoggebaa

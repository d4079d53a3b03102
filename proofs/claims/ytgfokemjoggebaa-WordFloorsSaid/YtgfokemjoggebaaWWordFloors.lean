/- The walk of the law WordFloors: it answers true for every two numbers. -/
import Derived.Test.YtgfokemjoggebaaWordRef
import Derived.Test.YtgfokemjoggebaaWordAwake
namespace Go.Proofs.Ytgfokemjoggebaa
open Go.RowKit
attribute [local irreducible] satZ floorZ restZ behindZ
set_option maxHeartbeats 400000 in
theorem wordFloors_walk (a0 : Int) (a1 : Int) (w : World) (w0 : (Lit.int .i64 a0).wf = true) (w1 : (Lit.int .i64 a1).wf = true) :
    Calls Try.prog 3 #[.int .i64 a0, .int .i64 a1] w fun e w' => e = .returned (.bool true) ∧ Below w.heap.size w w' := by
  have h0 := i64_bd w0
  have h1 := i64_bd w1
  clear w0 w1
  go_enter Try.func3, Try.ntmps3
  go_wp2_with fail
  refine (word_awake _).mono ?_
  rintro e w' ⟨rfl, rfl⟩
  go_wp2_with fail
  refine (w_floor a0 a1 _ h0 h1).mono ?_
  rintro e w' ⟨rfl, rfl⟩
  go_wp2_with fail
  refine (r_floor a0 a1 _ h0 h1).mono ?_
  rintro e w' ⟨rfl, rfl⟩
  go_wp2_with fail
  refine (w_rest a0 a1 _ h0 h1).mono ?_
  rintro e w' ⟨rfl, rfl⟩
  go_wp2_with fail
  refine (r_rest a0 a1 _ h1).mono ?_
  rintro e w' ⟨rfl, rfl⟩
  go_wp2_with fail
  go_ret
  exact ⟨ret_bool (by simp), Below.refl _ _⟩
end Go.Proofs.Ytgfokemjoggebaa

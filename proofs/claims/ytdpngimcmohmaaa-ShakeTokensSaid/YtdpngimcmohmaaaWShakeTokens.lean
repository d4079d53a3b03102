/- The walk of the law ShakeTokens: it answers true for every number and round. -/
import Derived.Test.YtdpngimcmohmaaaShake5
namespace Go.Proofs.Ytdpngimcmohmaaa
open Go.RowKit
attribute [local irreducible] tokZ
set_option maxHeartbeats 400000 in
theorem shakeTokens_walk (a0 : Int) (a1 : Int) (w : World) (w0 : (Lit.int .u32 a0).wf = true) (w1 : (Lit.int .i64 a1).wf = true) :
    Calls Try.prog 3 #[.int .u32 a0, .int .i64 a1] w fun e w' => e = .returned (.bool true) ∧ Below w.heap.size w w' := by
  have h0 := u32_bd a0 w0
  obtain ⟨h1, h2⟩ := h0
  have h2' : a0 < 4294967296 := by omega
  have ht := (tokZ_bd a0 a1).1
  clear w0 w1 h2
  go_enter Try.func3, Try.ntmps3
  go_wp2_with fail
  refine (shake_awake w).mono ?_
  rintro e w1 ⟨rfl, hB⟩
  go_wp2_with fail
  refine (s_token a0 a1 _ h1 h2').mono ?_
  rintro e w' ⟨rfl, rfl⟩
  go_wp2_with fail
  refine (r_token a0 a1 _ h1 h2').mono ?_
  rintro e w' ⟨rfl, rfl⟩
  go_wp2_with fail
  go_ret
  exact ⟨ret_bool (by simp; omega), hB⟩
end Go.Proofs.Ytdpngimcmohmaaa

/- awake of backstaylaw03: it answers true, and turns nothing that was there. No condition. -/
import Derived.Test.YtdodpjdkfjaogaaGf2
namespace Go.Proofs.Ytdodpjdkfjaogaa
open Go.RowKit
theorem rinv_two : rinv 2 = 142 := by decide +kernel
theorem rmul_2_128 : rmul 2 128 = 29 := by decide +kernel
attribute [local irreducible] gexp gtbl glog rmul rinv rpow zexp
theorem inv_two (p : Nat) (w : World) (hg : IsGf w p) :
    Calls Try.prog 13 #[.pointer (some ⟨p, 0, none⟩), .int .u8 2] w fun e w' => e = .returned (.tuple #[.int .u8 142, .int .i64 0]) ∧ ∃ n, w' = w.drewN n := by
  have h := gf_inv p 2 w hg (by decide) (by decide)
  rw [rinv_two] at h
  exact h
theorem mul_2_128 (p : Nat) (w : World) (hg : IsGf w p) :
    Calls Try.prog 11 #[.pointer (some ⟨p, 0, none⟩), .int .u8 2, .int .u8 128] w fun e w' => e = .returned (.int .u8 29) ∧ ∃ n, w' = w.drewN n := by
  have h := gf_mul p 2 128 w hg (by decide) (by decide)
  rw [rmul_2_128] at h
  exact h

set_option maxRecDepth 100000 in
set_option maxHeartbeats 400000 in
theorem gf_awake (w : World) :
    Calls Try.prog 9 #[] w fun e w' => e = .returned (.bool true) ∧ Below w.heap.size w w' := by
  go_enter Try.func9, Try.ntmps9
  go_wp2_with fail
  refine (gf_new w).mono ?_
  rintro e w' ⟨rfl, n, rfl⟩
  go_wp2_with fail
  refine (inv_two _ _ (IsGf.made w n)).mono ?_
  rintro e w' ⟨rfl, m, rfl⟩
  go_wp2_with fail
  refine (mul_2_128 _ _ (IsGf.made w _)).mono ?_
  rintro e w' ⟨rfl, k, rfl⟩
  go_wp2_with fail
  go_ret
  exact ⟨rfl, below_drewN ((Below.refl _ _).alloc (Nat.le_refl _) _) _⟩
end Go.Proofs.Ytdodpjdkfjaogaa

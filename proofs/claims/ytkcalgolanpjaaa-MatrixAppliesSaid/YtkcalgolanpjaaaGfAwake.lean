/- awake of backstaylaw03: it answers true, and turns nothing that was there. No condition. -/
import Derived.Test.YtkcalgolanpjaaaGf2
namespace Go.Proofs.Ytkcalgolanpjaaa
open Go.RowKit
theorem rinv_two : rinv 2 = 142 := by decide +kernel
theorem rmul_2_128 : rmul 2 128 = 29 := by decide +kernel
attribute [local irreducible] gexp gtbl glog rmul rinv rpow zexp
theorem inv_two (p : Nat) (w : World) (hg : IsGf w p) :
    Calls Try.prog 45 #[.pointer (some ⟨p, 0, none⟩), .int .u8 2] w fun e w' => e = .returned (.tuple #[.int .u8 142, .int .i64 0]) ∧ ∃ n, w' = w.drewN n := by
  have h := gf_inv p 2 w hg (by decide) (by decide)
  rw [rinv_two] at h
  exact h
theorem mul_2_128 (p : Nat) (w : World) (hg : IsGf w p) :
    Calls Try.prog 49 #[.pointer (some ⟨p, 0, none⟩), .int .u8 2, .int .u8 128] w fun e w' => e = .returned (.int .u8 29) ∧ ∃ n, w' = w.drewN n := by
  have h := gf_mul p 2 128 w hg (by decide) (by decide)
  rw [rmul_2_128] at h
  exact h

end Go.Proofs.Ytkcalgolanpjaaa

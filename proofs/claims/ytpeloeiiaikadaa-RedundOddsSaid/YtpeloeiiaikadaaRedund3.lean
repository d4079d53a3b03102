/- The law's awake of layer 16, and what the laws' walks share. -/
import Derived.Test.YtpeloeiiaikadaaRedund2
namespace Go.Proofs.Ytpeloeiiaikadaa
open Go.RowKit
theorem aw_t1 : tgZ 4 0 16 = 0 := by decide +kernel
theorem aw_t2 : tgZ 4 32768 16 = 5 := by decide +kernel
theorem cdZ_mono (a K K' : Int) (hK : 0 < K) (hK' : K ≤ K') (ha : 0 ≤ a) : cdZ a K' ≤ cdZ a K := by
  have h1 := cdZ_ge a K hK
  have h2 := cdZ_lt a K' (by omega)
  have h3 := cdZ_bd a K hK ha
  have h4 : cdZ a K * K ≤ cdZ a K * K' := Int.mul_le_mul_of_nonneg_left hK' h3.1
  by_cases h : cdZ a K' ≤ cdZ a K
  · exact h
  · exfalso
    have h5 : cdZ a K * K' ≤ (cdZ a K' - 1) * K' := Int.mul_le_mul_of_nonneg_right (by omega) (by omega)
    omega
theorem clampZ_mono (a b lo hi : Int) (h : a ≤ b) : clampZ a lo hi ≤ clampZ b lo hi := by unfold clampZ; omega
theorem tgZ_more (k loss most : Int) (h0 : 0 ≤ loss) (h1 : loss ≤ 65534) : tgZ k loss most ≤ tgZ k (loss + 1) most := by
  have hk := clampZ_bd k 0 16 (by omega)
  have e1 : clampZ loss 0 65535 = loss := clampZ_in _ _ _ h0 (by omega)
  have e2 : clampZ (loss + 1) 0 65535 = loss + 1 := clampZ_in _ _ _ (by omega) (by omega)
  have hb := tgL_bd (loss + 1) (clampZ k 0 16) most (by omega) (by omega)
  unfold tgZ
  rw [e1, e2]
  generalize clampZ k 0 16 = q at *
  by_cases hz : loss = 0 ∨ q = 0
  · have : tgL loss q most = 0 := (tgL_0 _ _ _ hz).symm
    omega
  · have hz1 : ¬ loss = 0 := fun h => hz (.inl h)
    have hz2 : ¬ q = 0 := fun h => hz (.inr h)
    rw [← tgL_1 loss q most _ hz1 hz2 rfl, ← tgL_1 (loss + 1) q most _ (by omega) hz2 rfl]
    apply clampZ_mono
    have h := clampZ_mono _ _ 0 255 (cdZ_mono (q * 65536) (65536 - (loss + 1)) (65536 - loss) (by omega) (by omega) (by omega))
    omega
theorem tgZ_bd (k loss most : Int) : 0 ≤ tgZ k loss most ∧ tgZ k loss most ≤ max most 0 := by
  have hl := clampZ_bd loss 0 65535 (by omega)
  exact tgL_bd _ _ _ hl.1 hl.2
attribute [local irreducible] tgZ
set_option maxHeartbeats 400000 in
theorem rd_awake (w : World) : Calls Try.prog 7 #[] w (ValPost w (.bool true)) := by
  have k1 := Lib.hid (fun W => s_target 4 0 16 W)
  have k2 := Lib.hid (fun W => s_target 4 32768 16 W)
  rw [aw_t1] at k1
  rw [aw_t2] at k2
  go_enter Try.func7, Try.ntmps7
  go_wp2_with fail
  refine (k1.out _).mono ?_
  rintro e w1 ⟨rfl, hb1⟩
  go_wp2_with fail
  refine (k2.out _).mono ?_
  rintro e w2 ⟨rfl, hb2⟩
  have hb := hb1.trans (hb2.mono hb1.size)
  clear hb1 hb2
  go_wp2_with fail
  go_ret
  exact ⟨rfl, hb⟩
end Go.Proofs.Ytpeloeiiaikadaa

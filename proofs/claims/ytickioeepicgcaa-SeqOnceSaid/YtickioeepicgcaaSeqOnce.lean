/- The plain law of SeqOnce: a number that came is not taken again. No program in sight, but for the comparing of two states. -/
import Derived.Test.YtickioeepicgcaaSeqPlayed
namespace Go.Proofs.Ytickioeepicgcaa
open Go.RowKit
theorem behindZ_self (n : Int) : behindZ n n = 0 := by unfold behindZ; simp
theorem once_law (s : SqS) (n : Int) :
    (((sqTake s n).2 = 0 ∨ (sqTake s n).2 = 171) ∧ (sqTake (sqTake s n).1 n).2 = 171 ∧ (sqTake (sqTake s n).1 n).1.came = (sqTake s n).1.came ∧ (sqTake (sqTake s n).1 n).1.top = (sqTake s n).1.top ∧ sqHas (sqTake (sqTake s n).1 n).1 n = true) ∨
    ((sqTake s n).2 = 90 ∧ (sqTake (sqTake s n).1 n).2 = 90 ∧ (sqTake s n).1 = s ∧ (sqTake (sqTake s n).1 n).1 = s ∧ sqHas s n = false) := by
  have hself := behindZ_self n
  cases ha : s.any
  · left
    have e1 : sqTake s n = (⟨true, n, m1, 1, 0, 0⟩, 0) := by unfold sqTake; rw [if_pos ha]
    have e2 : sqTake ⟨true, n, m1, 1, 0, 0⟩ n = (⟨true, n, m1, 1, 1, 0⟩, 171) := by
      unfold sqTake
      simp [hself, m1]
    rw [e1]
    simp only [e2]
    simp [sqHas, hself, m1]
  · by_cases h1 : 0 < behindZ n s.top
    · left
      have e1 : sqTake s n = (⟨s.any, n, onM (mvM s.m (behindZ n s.top).toNat) 0, s.came + 1, s.tw, s.lost + sqLost s.m (behindZ n s.top)⟩, 0) := by unfold sqTake; rw [if_neg (by simp [ha]), if_pos h1]
      rw [e1]
      generalize s.lost + sqLost s.m (behindZ n s.top) = L
      generalize mvM s.m (behindZ n s.top).toNat = M
      have e2 : sqTake ⟨s.any, n, onM M 0, s.came + 1, s.tw, L⟩ n = (⟨s.any, n, onM M 0, s.came + 1, s.tw + 1, L⟩, 171) := by
        unfold sqTake
        simp [hself, ha, onM]
      simp only [e2]
      simp [sqHas, hself, onM, ha]
    · by_cases h2 : behindZ n s.top ≤ -64
      · right
        have e1 : sqTake s n = (s, 90) := by unfold sqTake; rw [if_neg (by simp [ha]), if_neg h1, if_pos h2]
        have h3 : decide (-64 < behindZ n s.top) = false := by simp; omega
        simp only [e1]
        simp [sqHas, h3]
      · left
        have h4 : decide (-64 < behindZ n s.top) = true := by simp; omega
        have h5 : decide (behindZ n s.top ≤ 0) = true := by simp; omega
        cases hm : s.m (-(behindZ n s.top)).toNat
        · have e1 : sqTake s n = ({ s with m := onM s.m (-(behindZ n s.top)).toNat, came := s.came + 1 }, 0) := by unfold sqTake; rw [if_neg (by simp [ha]), if_neg h1, if_neg h2, if_neg (by simp [hm])]
          have e2 : sqTake { s with m := onM s.m (-(behindZ n s.top)).toNat, came := s.came + 1 } n = ({ s with m := onM s.m (-(behindZ n s.top)).toNat, came := s.came + 1, tw := s.tw + 1 }, 171) := by
            unfold sqTake
            simp only
            rw [if_neg (by simp [ha]), if_neg h1, if_neg h2, if_pos (by simp [onM])]
          rw [e1]
          simp only [e2]
          simp only [sqHas, h4, h5, ha]
          simp [onM]
        · have e1 : sqTake s n = ({ s with tw := s.tw + 1 }, 171) := by unfold sqTake; rw [if_neg (by simp [ha]), if_neg h1, if_neg h2, if_pos hm]
          have e2 : sqTake { s with tw := s.tw + 1 } n = ({ s with tw := s.tw + 1 + 1 }, 171) := by
            unfold sqTake
            simp only
            rw [if_neg (by simp [ha]), if_neg h1, if_neg h2, if_pos hm]
          rw [e1]
          simp only [e2]
          simp only [sqHas, h4, h5, ha, hm]
          simp
theorem neq_sq (s : SqS) (w : World) : (binOp .neq 27 (.agg (sqA s)) (.agg (sqA s))).run Try.prog w = .ok (.bool false) w := by
  unfold sqA
  simp [go_sem, Try.eqGuardType27, Try.stoodInHeld27]
end Go.Proofs.Ytickioeepicgcaa

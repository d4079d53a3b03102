/- The law's awake and played of layer 8. Conditions: none beyond what a list of numbers is. -/
import Derived.Test.YtickioeepicgcaaSeqHas
namespace Go.Proofs.Ytickioeepicgcaa
open Go.RowKit
/-- the state ahead of all -/
def z0S : SqS := ⟨false, 0, fun _ => false, 0, 0, 0⟩
theorem bw_none : bw (fun _ => false) = 0 := by decide +kernel
theorem sqA_zero : sqA z0S = #[.bool false, .int .u32 0, .int .u64 0, .int .i64 0, .int .i64 0, .int .i64 0] := by
  unfold sqA z0S
  simp only [bw_none]
  rfl
theorem z0_ok : SqOk z0S 0 := ⟨by decide, by decide, by decide, by decide, by decide, by decide, by decide, by decide⟩
theorem aw1 : sqTake z0S 5 = (⟨true, 5, m1, 1, 0, 0⟩, 0) := rfl
def aw2S : SqS := ⟨true, 7, onM (mvM m1 2) 0, 2, 0, 0 + sqLost m1 2⟩
theorem aw2 : sqTake ⟨true, 5, m1, 1, 0, 0⟩ 7 = (aw2S, 0) := rfl
theorem aw3 : sqTake aw2S 5 = ({ aw2S with tw := aw2S.tw + 1 }, 171) := rfl
theorem aw4 : sqHoles { aw2S with tw := aw2S.tw + 1 } (clampZ 2 0 64).toNat = 1 := by decide +kernel
theorem aw5 : sqHas { aw2S with tw := aw2S.tw + 1 } 7 = true := by decide +kernel
theorem aw_lost : 0 ≤ sqLost m1 2 ∧ sqLost m1 2 ≤ 2 := by decide +kernel
attribute [local irreducible] behindZ bw goneM sqLost sqTake sqHoles sqHas sqA
def AwPost (W : World) (e : Ending) (W' : World) : Prop := e = .returned (.bool true) ∧ Below W.heap.size W W'
set_option maxHeartbeats 1000000 in
theorem sq_awake (w : World) : Calls Try.prog 6 #[] w (AwPost w) := by
  have h0 : SqAt (w.alloc (.cells (sqA z0S) 27)) w.heap.size z0S := last_block0 _ _ _ rfl
  have hb0 : Below w.heap.size w (w.alloc (.cells (sqA z0S) 27)) := (Below.refl _ _).alloc (Nat.le_refl _) _
  rw [sqA_zero] at h0 hb0
  go_enter Try.func6, Try.ntmps6
  go_upto_region 2 with (fail)
  generalize World.alloc w _ = W at h0 hb0 ⊢
  have k0 := hide (s_take w.heap.size z0S 0 5 W h0 z0_ok (by decide))
  rw [aw1] at k0
  clear h0
  go_wp2_with fail
  refine k0.out.mono ?_
  rintro e w1 ⟨rfl, h1, g1⟩
  have k1 := hide (s_take w.heap.size ⟨true, 5, m1, 1, 0, 0⟩ 10 7 w1 h1 ⟨by decide, by decide, by decide, by decide, by decide, by decide, by decide, by decide⟩ (by decide))
  rw [aw2] at k1
  have b1 := below_of_only hb0 g1 hb0.size (Nat.le_refl _)
  clear h1 g1 k0 hb0
  go_wp2_with fail
  refine k1.out.mono ?_
  rintro e w2 ⟨rfl, h2, g2⟩
  have k2 := hide (s_take w.heap.size aw2S 10 5 w2 h2 ⟨by decide, by decide, by decide, by decide, by decide, by decide, by have := aw_lost; unfold aw2S; simp only; omega, by have := aw_lost; unfold aw2S; simp only; omega⟩ (by decide))
  rw [aw3] at k2
  have b2 := below_of_only b1 g2 b1.size (Nat.le_refl _)
  clear h2 g2 k1 b1
  go_wp2_with fail
  refine k2.out.mono ?_
  rintro e w3 ⟨rfl, h3, g3⟩
  have k3 := hide (s_holes w.heap.size { aw2S with tw := aw2S.tw + 1 } 2 w3 h3)
  rw [aw4] at k3
  have b3 := below_of_only b2 g3 b2.size (Nat.le_refl _)
  have h3h := hide h3
  clear h3 g3 k2 b2
  go_wp2_with fail
  refine k3.out.mono ?_
  rintro e w4 ⟨rfl, n4, hw4⟩
  have h4 : SqAt w4 w.heap.size { aw2S with tw := aw2S.tw + 1 } := by rw [hw4]; exact h3h.out
  have b4 : Below w.heap.size w w4 := by rw [hw4]; exact below_drewN b3 _
  have k4 := hide (s_has w.heap.size { aw2S with tw := aw2S.tw + 1 } 7 w4 h4)
  rw [aw5] at k4
  clear h4 hw4 k3 h3h b3
  go_wp2_with fail
  refine k4.out.mono ?_
  rintro e w5 ⟨rfl, n5, hw5⟩
  have b5 : Below w.heap.size w w5 := by rw [hw5]; exact below_drewN b4 _
  clear hw5 k4 b4
  go_wp2_with fail
  go_ret
  exact ⟨rfl, b5⟩
end Go.Proofs.Ytickioeepicgcaa

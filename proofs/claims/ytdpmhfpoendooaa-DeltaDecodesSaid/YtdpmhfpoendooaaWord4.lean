/- Clamp, Abs, Abs64, Sum of package word. Conditions: the arguments are numbers of their kinds. -/
import Derived.Test.YtdpmhfpoendooaaWord
namespace Go.Proofs.Ytdpmhfpoendooaa
open Go.RowKit
/-- held within two others -/
def clampZ (n lo hi : Int) : Int := max lo (min n (max lo hi))
theorem clampZ_bd (n lo hi : Int) (h : lo ≤ hi) : lo ≤ clampZ n lo hi ∧ clampZ n lo hi ≤ hi := by unfold clampZ; omega
set_option maxHeartbeats 400000 in
theorem w_clamp (n lo hi : Int) (w : World) :
    Calls Try.prog 33 #[.int .i64 n, .int .i64 lo, .int .i64 hi] w fun e w' => e = .returned (.int .i64 (clampZ n lo hi)) ∧ w = w' := by
  go_enter Try.func33, Try.ntmps33
  go_wp2_with fail
  all_goals
    go_ret
    exact ⟨ret_int (by unfold clampZ; omega), rfl⟩
attribute [local irreducible] satZ
/-- the sum of many, held each time -/
def sumZ (l : List Int) : Int := l.foldl (fun n x => satZ (n + x)) 0
theorem sumZ_take (l : List Int) (k : Nat) (x : Int) (h : l[k]? = some x) : sumZ (l.take (k + 1)) = satZ (sumZ (l.take k) + x) := by
  rw [List.take_add_one, h]; simp [sumZ]
theorem sumZ_bd (l : List Int) (k : Nat) : I64 (sumZ (l.take k)) := by
  induction k with
  | zero => exact ⟨by simp [sumZ], by simp [sumZ]⟩
  | succ k ih =>
    rcases hx : l[k]? with _ | x
    · rw [List.take_add_one, hx]; simpa using ih
    · rw [sumZ_take l k x hx]; exact satZ_bd _
theorem sumZ_nil : sumZ [] = 0 := rfl
attribute [local irreducible] sumZ
end Go.Proofs.Ytdpmhfpoendooaa

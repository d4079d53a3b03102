/- The walk of the law WordNewer: it answers true for every two numbers of 32 bits. -/
import Derived.Test.YtgfokemjoggebaaWordRef
import Derived.Test.YtgfokemjoggebaaWordAwake
namespace Go.Proofs.Ytgfokemjoggebaa
open Go.RowKit
theorem behind_self (a : Int) : behindZ a a = 0 := by unfold behindZ; simp
theorem behind_turn (a b : Int) (ha : 0 ≤ a ∧ a < 4294967296) (hb : 0 ≤ b ∧ b < 4294967296) (h : a ≠ b) : behindZ a b = -2147483648 ∨ (0 < behindZ a b ↔ ¬ 0 < behindZ b a) := by
  unfold behindZ
  split <;> split <;> omega
attribute [local irreducible] satZ floorZ restZ behindZ
set_option maxHeartbeats 400000 in
theorem wordNewer_walk (a0 : Int) (a1 : Int) (w : World) (w0 : (Lit.int .u32 a0).wf = true) (w1 : (Lit.int .u32 a1).wf = true) :
    Calls Try.prog 5 #[.int .u32 a0, .int .u32 a1] w fun e w' => e = .returned (.bool true) ∧ Below w.heap.size w w' := by
  obtain ⟨a, rfl, ha⟩ := u32_nat w0
  obtain ⟨b, rfl, hb⟩ := u32_nat w1
  clear w0 w1
  by_cases e : a = b
  · subst e
    have hs := hide (behind_self a)
    go_enter Try.func5, Try.ntmps5
    go_wp2_with fail
    refine (word_awake _).mono ?_
    rintro e w' ⟨rfl, rfl⟩
    go_wp2_with fail
    refine (w_behind _ _ _).mono ?_
    rintro e w' ⟨rfl, rfl⟩
    go_wp2_with fail
    refine (r_behind _ _ _ ⟨by omega, by omega⟩ ⟨by omega, by omega⟩).mono ?_
    rintro e w' ⟨rfl, rfl⟩
    go_wp2_with fail
    refine (w_newer _ _ _).mono ?_
    rintro e w' ⟨rfl, rfl⟩
    go_wp2_with fail
    refine (r_behind _ _ _ ⟨by omega, by omega⟩ ⟨by omega, by omega⟩).mono ?_
    rintro e w' ⟨rfl, rfl⟩
    go_wp2_with fail
    refine (w_newer _ _ _).mono ?_
    rintro e w' ⟨rfl, rfl⟩
    rw [hs.out]
    go_wp2_with fail
    refine (w_newer _ _ _).mono ?_
    rintro e w' ⟨rfl, rfl⟩
    rw [hs.out]
    go_wp2_with fail
    go_ret
    exact ⟨rfl, Below.refl _ _⟩
  · have e0 : ((a : Int) == b) = false := by simp; omega
    have ht := Lib.hid (behind_turn a b ⟨by omega, by omega⟩ ⟨by omega, by omega⟩ (by omega))
    go_enter Try.func5, Try.ntmps5
    go_wp2_with fail
    refine (word_awake _).mono ?_
    rintro e w' ⟨rfl, rfl⟩
    go_wp2_with fail
    refine (w_behind _ _ _).mono ?_
    rintro e w' ⟨rfl, rfl⟩
    go_wp2_with fail
    refine (r_behind _ _ _ ⟨by omega, by omega⟩ ⟨by omega, by omega⟩).mono ?_
    rintro e w' ⟨rfl, rfl⟩
    go_wp2_with fail
    refine (w_newer _ _ _).mono ?_
    rintro e w' ⟨rfl, rfl⟩
    go_wp2_with fail
    refine (r_behind _ _ _ ⟨by omega, by omega⟩ ⟨by omega, by omega⟩).mono ?_
    rintro e w' ⟨rfl, rfl⟩
    go_wp2_with fail
    refine (r_behind _ _ _ ⟨by omega, by omega⟩ ⟨by omega, by omega⟩).mono ?_
    rintro e w' ⟨rfl, rfl⟩
    go_wp2_with fail
    · go_ret
      exact ⟨rfl, Below.refl _ _⟩
    · refine (w_newer _ _ _).mono ?_
      rintro e w' ⟨rfl, rfl⟩
      go_wp2_with fail
      refine (w_newer _ _ _).mono ?_
      rintro e w' ⟨rfl, rfl⟩
      go_wp2_with fail
      go_ret
      refine ⟨ret_bool ?_, Below.refl _ _⟩
      have h2 := ht.out.resolve_left ‹¬ behindZ (a : Int) b = -2147483648›
      by_cases h : 0 < behindZ (a : Int) b <;> by_cases k : 0 < behindZ (b : Int) a
      · omega
      · simp [h, k]
      · simp [h, k]
      · omega
end Go.Proofs.Ytgfokemjoggebaa

/- The walk of the law WordBack: it answers true for every two numbers. -/
import Derived.Test.YtgfokemjoggebaaWordAwake
namespace Go.Proofs.Ytgfokemjoggebaa
open Go.RowKit
theorem back_wrap (a b : Int) (ha : I64 a) (hb : I64 b) (b0 : b ≠ 0) (h : ¬ (a = -9223372036854775808 ∧ b = -1)) : wrap64 (wrap64 (floorZ a b * b) + restZ a b) = a := by
  obtain ⟨a1, a2⟩ := ha
  have hf : floorZ a b = a.fdiv b := by
    unfold floorZ
    rw [if_neg b0]
    by_cases bm : b = -1
    · subst bm
      rw [fdiv_of a (-1) (by decide)]
      simp
      exact satZ_in _ (by omega) (by omega)
    · obtain ⟨⟨h1, h2⟩, h3⟩ := tdiv_bd a b ⟨a1, a2⟩ b0 bm
      rw [fdiv_of a b b0]
      split
      · rename_i hh
        have := h3 hh.1
        exact satZ_in _ (by omega) (by omega)
      · rw [Int.sub_zero]; exact satZ_in _ h1 h2
  have hr : restZ a b = a.fmod b := by unfold restZ; rw [if_neg b0]
  have he := Int.mul_fdiv_add_fmod a b
  rw [hf, hr, Int.mul_comm (a.fdiv b) b]
  unfold wrap64
  omega
theorem rest_pos (a b : Int) (h : 0 < b) : 0 ≤ restZ a b ∧ restZ a b < b := by
  unfold restZ; rw [if_neg (by omega)]
  exact ⟨Int.fmod_nonneg_of_pos a h, Int.fmod_lt_of_pos a h⟩
theorem rest_neg (a b : Int) (h : b < 0) : restZ a b ≤ 0 ∧ b < restZ a b := by
  unfold restZ; rw [if_neg (by omega), fmod_of a b (by omega)]
  have := tmod_abs a b (by omega)
  split <;> omega
attribute [local irreducible] satZ floorZ restZ behindZ
set_option maxHeartbeats 400000 in
theorem wordBack_walk (a0 : Int) (a1 : Int) (w : World) (w0 : (Lit.int .i64 a0).wf = true) (w1 : (Lit.int .i64 a1).wf = true) :
    Calls Try.prog 4 #[.int .i64 a0, .int .i64 a1] w fun e w' => e = .returned (.bool true) ∧ Below w.heap.size w w' := by
  have h0 := i64_bd w0
  have h1 := i64_bd w1
  clear w0 w1
  by_cases b0 : a1 = 0
  · subst b0
    go_enter Try.func4, Try.ntmps4
    go_wp2_with fail
    refine (word_awake _).mono ?_
    rintro e w' ⟨rfl, rfl⟩
    go_wp2_with fail
    go_ret
    exact ⟨rfl, Below.refl _ _⟩
  · have e0 : (a1 == 0) = false := by simp; exact b0
    by_cases hl : a0 = -9223372036854775808 ∧ a1 = -1
    · obtain ⟨rfl, rfl⟩ := hl
      go_enter Try.func4, Try.ntmps4
      go_wp2_with fail
      refine (word_awake _).mono ?_
      rintro e w' ⟨rfl, rfl⟩
      go_wp2_with fail
      go_ret
      exact ⟨rfl, Below.refl _ _⟩
    · have hw := hide (back_wrap a0 a1 h0 h1 b0 hl)
      have hp := Lib.hid (rest_pos a0 a1)
      have hn := Lib.hid (rest_neg a0 a1)
      have hl' : (a0 == -9223372036854775808) = true → (a1 == -1) = false := by
        intro h; simp at h ⊢; intro h2; exact hl ⟨h, h2⟩
      clear hl
      have key : ∀ B : Bool, (a0 == -9223372036854775808) = B → (B = true → (a1 == -1) = false) → Calls Try.prog 4 #[.int .i64 a0, .int .i64 a1] w fun e w' => e = .returned (.bool true) ∧ Below w.heap.size w w' := by
        intro B hB hq
        rcases Int.lt_or_gt_of_ne b0 with hs | hs
        · obtain ⟨r1, r2⟩ := hn.out hs
          cases B
          · clear hq
            go_enter Try.func4, Try.ntmps4
            go_wp2_with fail
            refine (word_awake _).mono ?_
            rintro e w' ⟨rfl, rfl⟩
            go_wp2_with fail
            refine (w_floor _ _ _ h0 h1).mono ?_
            rintro e w' ⟨rfl, rfl⟩
            go_wp2_with fail
            refine (w_rest _ _ _ h0 h1).mono ?_
            rintro e w' ⟨rfl, rfl⟩
            go_wp2_with fail
            go_ret
            exact ⟨ret_bool (by rw [hw.out]; simp), Below.refl _ _⟩
          · have e1 := hq rfl
            clear hq
            go_enter Try.func4, Try.ntmps4
            go_wp2_with fail
            refine (word_awake _).mono ?_
            rintro e w' ⟨rfl, rfl⟩
            go_wp2_with fail
            refine (w_floor _ _ _ h0 h1).mono ?_
            rintro e w' ⟨rfl, rfl⟩
            go_wp2_with fail
            refine (w_rest _ _ _ h0 h1).mono ?_
            rintro e w' ⟨rfl, rfl⟩
            go_wp2_with fail
            go_ret
            exact ⟨ret_bool (by rw [hw.out]; simp), Below.refl _ _⟩
        · obtain ⟨r1, r2⟩ := hp.out hs
          cases B
          · clear hq
            go_enter Try.func4, Try.ntmps4
            go_wp2_with fail
            refine (word_awake _).mono ?_
            rintro e w' ⟨rfl, rfl⟩
            go_wp2_with fail
            refine (w_floor _ _ _ h0 h1).mono ?_
            rintro e w' ⟨rfl, rfl⟩
            go_wp2_with fail
            refine (w_rest _ _ _ h0 h1).mono ?_
            rintro e w' ⟨rfl, rfl⟩
            go_wp2_with fail
            go_ret
            exact ⟨ret_bool (by rw [hw.out]; simp), Below.refl _ _⟩
          · have e1 := hq rfl
            clear hq
            go_enter Try.func4, Try.ntmps4
            go_wp2_with fail
            refine (word_awake _).mono ?_
            rintro e w' ⟨rfl, rfl⟩
            go_wp2_with fail
            refine (w_floor _ _ _ h0 h1).mono ?_
            rintro e w' ⟨rfl, rfl⟩
            go_wp2_with fail
            refine (w_rest _ _ _ h0 h1).mono ?_
            rintro e w' ⟨rfl, rfl⟩
            go_wp2_with fail
            go_ret
            exact ⟨ret_bool (by rw [hw.out]; simp), Below.refl _ _⟩
      exact key _ rfl hl'
end Go.Proofs.Ytgfokemjoggebaa

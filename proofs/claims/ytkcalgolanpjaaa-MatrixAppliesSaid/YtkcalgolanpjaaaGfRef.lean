/- The contracts of package backstayref03 (the document's answer for gf): the product bit by bit, the inverse by trying, the power, the row product. Conditions: none beyond the ranges of bytes. -/
import Derived.Test.YtkcalgolanpjaaaAid
import Derived.Test.YtkcalgolanpjaaaGfPlain
namespace Go.Proofs.Ytkcalgolanpjaaa
open Go.RowKit
attribute [local irreducible] gexp glog rmul mulA redB rpow


theorem bit_yes {x k : Nat} (h : (((x : Int) / 2 ^ k).tmod 2 == 1) = true) : (x / 2 ^ k) % 2 = 1 := by
  rw [cast_pow, tmod2] at h; simpa using h
theorem bit_no {x k : Nat} (h : (((x : Int) / 2 ^ k).tmod 2 == 1) = false) : ¬ (x / 2 ^ k) % 2 = 1 := by
  rw [cast_pow, tmod2] at h; simpa using h
theorem mulA_step (a b k : Nat) (ha : a < 256) (hk : k < 8) (h : (((b : Int) / 2 ^ k).tmod 2 == 1) = true) :
    bits .xor .i64 (mulA a b k : Nat) (wrap64 ((a : Int) * 2 ^ k)) = (mulA a b (k + 1) : Nat) := by
  have h1 := mulA_lt a b k ha (by omega)
  have h2 : a * 2 ^ k < 65536 := by
    have : 2 ^ k ≤ 2 ^ 7 := Nat.pow_le_pow_right (by decide) (by omega)
    calc a * 2 ^ k ≤ a * 2 ^ 7 := Nat.mul_le_mul_left _ this
      _ < 65536 := by omega
  have e : (a : Int) * 2 ^ k = ((a * 2 ^ k : Nat) : Int) := by simp
  rw [e, IntWalk.wrap64_in _ ⟨by omega, by omega⟩, i64_xor_nat _ _ (by omega) (by omega), mulA_yes a b k (bit_yes h)]
theorem redB_step (n j : Nat) (hn : n < 65536) (hj : j < 7) (h : (redB n j / 2 ^ (14 - j)) % 2 = 1) :
    bits .xor .i64 (redB n j : Nat) (wrap64 (285 * 2 ^ (14 - j - 8))) = (redB n (j + 1) : Nat) := by
  have h1 := redB_lt n j hn
  have h2 : 285 * 2 ^ (6 - j) < 65536 := by
    have : 2 ^ (6 - j) ≤ 2 ^ 6 := Nat.pow_le_pow_right (by decide) (by omega)
    calc 285 * 2 ^ (6 - j) ≤ 285 * 2 ^ 6 := Nat.mul_le_mul_left _ this
      _ < 65536 := by decide
  have e : (285 : Int) * 2 ^ (14 - j - 8) = ((285 * 2 ^ (6 - j) : Nat) : Int) := by
    rw [show 14 - j - 8 = 6 - j by omega]; simp
  rw [e, IntWalk.wrap64_in _ ⟨by omega, by omega⟩, i64_xor_nat _ _ (by omega) (by omega), redB_yes n j h]

set_option maxHeartbeats 400000 in
theorem ref_mul (a b : Nat) (w : World) (ha : a < 256) (_hb : b < 256) :
    Calls Try.prog 34 #[.int .u8 a, .int .u8 b] w fun e w' => e = .returned (.int .u8 (rmul a b : Nat)) ∧ w = w' := by
  go_enter Try.func34, Try.ntmps34
  go_wp2
  go_loop [5, 6] (fun v i => ∃ k : Nat, k ≤ 8 ∧ i = .int .i64 k ∧ v = .int .i64 (mulA a b k : Nat)) (fun _ i => 8 - (intOf i).toNat)
  case atStart => exact ⟨0, by omega, rfl, by rw [mulA_zero]; rfl⟩
  case round =>
    obtain ⟨k, hk, rfl, rfl⟩ := hrel
    by_cases hlt : k < 8
    · go_wp2
      · have h := ‹(((b : Int) / 2 ^ k).tmod 2 == 1) = true›
        rw [mulA_step a b k ha hlt h]
        go_round
        case rel => exact ⟨k + 1, by omega, by go_num, rfl⟩
        case measure => simp [intOf]; omega
      · have h := bit_no ‹(((b : Int) / 2 ^ k).tmod 2 == 1) = false›
        rw [← mulA_no a b k h]
        go_round
        case rel => exact ⟨k + 1, by omega, by go_num, rfl⟩
        case measure => simp [intOf]; omega
    · obtain rfl : k = 8 := by omega
      go_wp2
      go_loop [5, 7] (fun v i => ∃ j : Nat, j ≤ 7 ∧ i = .int .i64 (14 - j : Int) ∧ v = .int .i64 (redB (mulA a b 8) j : Nat)) (fun _ i => (intOf i).toNat)
      case atStart => exact ⟨0, by omega, rfl, by rw [redB_zero]⟩
      case round =>
        obtain ⟨j, hj, rfl, rfl⟩ := hrel
        by_cases hlt : j < 7
        · go_wp2
          · have h := bit_yes ‹((((redB (mulA a b 8) j : Nat) : Int) / 2 ^ (14 - j)).tmod 2 == 1) = true›
            rw [redB_step (mulA a b 8) j (mulA_lt a b 8 ha (by omega)) hlt h]
            go_round
            case rel => exact ⟨j + 1, by omega, by rw [show ((14 : Int) - ((j + 1 : Nat) : Int)) = 14 - (j : Int) - 1 from by omega], rfl⟩
            case measure => simp [intOf]; omega
          · have h := bit_no ‹((((redB (mulA a b 8) j : Nat) : Int) / 2 ^ (14 - j)).tmod 2 == 1) = false›
            rw [← redB_no _ _ h]
            go_round
            case rel => exact ⟨j + 1, by omega, by rw [show ((14 : Int) - ((j + 1 : Nat) : Int)) = 14 - (j : Int) - 1 from by omega], rfl⟩
            case measure => simp [intOf]; omega
        · obtain rfl : j = 7 := by omega
          have hl := redB_lt (mulA a b 8) 7 (mulA_lt a b 8 ha (by omega))
          go_wp2
          go_ret
          exact ⟨ret_int (by rw [rmul_eq]; simp), rfl⟩

set_option maxRecDepth 100000 in
set_option maxHeartbeats 400000 in
theorem ref_inv (a : Nat) (w : World) (ha : a < 256) :
    Calls Try.prog 47 #[.int .u8 a] w fun e w' => e = .returned (.int .u8 (rinv a : Nat)) ∧ w = w' := by
  go_enter Try.func47, Try.ntmps47
  go_wp2_with fail
  go_loop [3] (fun i => ∃ k : Nat, 1 ≤ k ∧ k ≤ 256 ∧ i = .int .i64 k ∧ Hid (∀ j, 1 ≤ j → j < k → rmul a j ≠ 1)) (fun i => 256 - (intOf i).toNat)
  case atStart => exact ⟨1, by omega, by omega, rfl, hide (fun j h1 h2 => by omega)⟩
  case round =>
    obtain ⟨k, hk1, hk, rfl, hq⟩ := hrel
    by_cases hlt : k < 256
    · have hm := rmul_lt a k
      by_cases h1 : rmul a k = 1
      · have hr := hide (rinv_uniq a k ha hlt h1)
        have h1' : ((rmul a k : Int) == 1) = true := by rw [h1]; rfl
        clear h1
        go_wp2_with fail
        refine (ref_mul a k _ ha hlt).mono ?_
        rintro e w' ⟨rfl, rfl⟩
        go_wp2_with fail
        go_ret
        exact ⟨ret_int (by rw [← hr.out]), rfl⟩
      · have h1' : ((rmul a k : Int) == 1) = false := by simp; omega
        have h1h := hide h1
        clear h1
        go_wp2_with fail
        refine (ref_mul a k _ ha hlt).mono ?_
        rintro e w' ⟨rfl, rfl⟩
        go_wp2_with fail
        go_round
        case rel =>
          refine ⟨k + 1, by omega, by omega, by go_num, hide (fun j h1 h2 => ?_)⟩
          by_cases e : j = k
          · subst e; exact h1h.out
          · exact hq.out j h1 (by omega)
        case measure => simp [intOf]; omega
    · obtain rfl : k = 256 := by omega
      have hr : Hid (rinv a = 0) := by
        refine hide ?_
        by_cases a0 : a = 0
        · rw [a0]; unfold rinv; rfl
        · have hl := rinv_lt a
          have h := rmul_rinv a ha a0
          by_cases e : rinv a = 0
          · exact e
          · exact absurd h (hq.out (rinv a) (by omega) hl)
      go_wp2_with fail
      go_ret
      exact ⟨ret_int (by rw [hr.out]; rfl), rfl⟩

set_option maxHeartbeats 400000 in
theorem ref_pow (a n : Nat) (w : World) (ha : a < 256) (hn : n ≤ 9223372036854775807) :
    Calls Try.prog 43 #[.int .u8 a, .int .i64 n] w fun e w' => e = .returned (.int .u8 (rpow a n : Nat)) ∧ w = w' := by
  go_enter Try.func43, Try.ntmps43
  go_wp2_with fail
  go_loop [5, 6] (fun v i => ∃ k : Nat, k ≤ n ∧ i = .int .i64 k ∧ v = .int .u8 (rpow a k : Nat)) (fun _ i => n - (intOf i).toNat)
  case atStart => exact ⟨0, by omega, rfl, by rw [rpow_zero]; rfl⟩
  case round =>
    obtain ⟨k, hk, rfl, rfl⟩ := hrel
    by_cases hlt : k < n
    · have hm := rpow_lt a k
      go_wp2_with fail
      refine (ref_mul (rpow a k) a _ hm ha).mono ?_
      rintro e w' ⟨rfl, rfl⟩
      go_wp2_with fail
      go_round
      case rel => exact ⟨k + 1, by omega, by go_num, by rw [rpow_succ]⟩
      case measure => simp [intOf]; omega
    · obtain rfl : k = n := by omega
      go_wp2_with fail
      go_ret
      exact ⟨rfl, rfl⟩
end Go.Proofs.Ytkcalgolanpjaaa

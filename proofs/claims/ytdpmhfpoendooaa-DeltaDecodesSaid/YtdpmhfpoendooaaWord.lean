/- The contracts of package word: what each function computes, in plain integers. Conditions: the arguments are numbers of their kinds. -/
import Derived.Test.YtdpmhfpoendooaaAid
namespace Go.Proofs.Ytdpmhfpoendooaa
open Go.RowKit

/-- held at the limits of 64 bits -/
def satZ (n : Int) : Int := if 9223372036854775807 < n then 9223372036854775807 else if n < -9223372036854775808 then -9223372036854775808 else n
theorem satZ_bd (n : Int) : -9223372036854775808 ≤ satZ n ∧ satZ n ≤ 9223372036854775807 := by unfold satZ; split <;> (try split) <;> omega
theorem satZ_in (n : Int) (h1 : -9223372036854775808 ≤ n) (h2 : n ≤ 9223372036854775807) : satZ n = n := by unfold satZ; rw [if_neg (by omega), if_neg (by omega)]
theorem satZ_hi (n : Int) (h : 9223372036854775807 ≤ n) : satZ n = 9223372036854775807 := by unfold satZ; split <;> (try split) <;> omega
theorem satZ_lo (n : Int) (h : n ≤ -9223372036854775808) : satZ n = -9223372036854775808 := by unfold satZ; split <;> (try split) <;> omega
def I64 (a : Int) : Prop := -9223372036854775808 ≤ a ∧ a ≤ 9223372036854775807
attribute [local irreducible] satZ

/-! ### quotients rounded down -/
/-- the quotient rounded down, held; 0 by 0 -/
def floorZ (a b : Int) : Int := if b = 0 then 0 else satZ (a.fdiv b)
/-- what it leaves; 0 by 0 -/
def restZ (a b : Int) : Int := if b = 0 then 0 else a.fmod b
theorem fdiv_of (a b : Int) (b0 : b ≠ 0) : a.fdiv b = a.tdiv b - (if a.tmod b ≠ 0 ∧ ¬ (a < 0 ↔ b < 0) then 1 else 0) := by
  rw [Int.fdiv_eq_tdiv]
  by_cases h : a.tmod b = 0
  · rw [if_pos (Int.dvd_of_tmod_eq_zero h), if_neg (by simp [h])]
  · rw [if_neg (fun e => h (Int.tmod_eq_zero_of_dvd e))]
    by_cases ha : 0 ≤ a <;> by_cases hb : 0 ≤ b
    · rw [if_pos ha, if_pos hb, if_neg (by omega)]
    · rw [if_pos ha, if_neg hb, if_pos (by omega)]
    · rw [if_neg ha, if_pos hb, if_pos (by omega), Int.sign_eq_one_of_pos (by omega)]
    · rw [if_neg ha, if_neg hb, if_neg (by omega), Int.sign_eq_neg_one_of_neg (by omega)]; omega
theorem tmod_sign (a b : Int) (h : a.tmod b ≠ 0) : a.tmod b < 0 ↔ a < 0 := by
  rcases Int.lt_or_le a 0 with ha | ha
  · have := Int.tmod_nonneg (a := -a) b (by omega)
    rw [Int.neg_tmod] at this
    omega
  · have := Int.tmod_nonneg (a := a) b ha
    omega
theorem tmod_abs (a b : Int) (b0 : b ≠ 0) : (a.tmod b).natAbs < b.natAbs := by
  rw [Int.natAbs_tmod]; exact Nat.mod_lt _ (by omega)
theorem fmod_of (a b : Int) (b0 : b ≠ 0) : a.fmod b = a.tmod b + (if a.tmod b ≠ 0 ∧ ¬ (a.tmod b < 0 ↔ b < 0) then b else 0) := by
  rw [Int.fmod_eq_tmod]
  by_cases h : a.tmod b = 0
  · rw [if_pos (Int.dvd_of_tmod_eq_zero h), if_neg (by simp [h])]
  · have hs := tmod_sign a b h
    rw [if_neg (fun e => h (Int.tmod_eq_zero_of_dvd e))]
    by_cases ha : 0 ≤ a <;> by_cases hb : 0 ≤ b
    · rw [if_pos ha, if_pos hb, if_neg (by omega)]
    · rw [if_pos ha, if_neg hb, if_pos (by omega)]
    · rw [if_neg ha, if_pos hb, if_pos (by omega)]; omega
    · rw [if_neg ha, if_neg hb, if_neg (by omega)]; omega
theorem tdiv_bd (a b : Int) (ha : I64 a) (b0 : b ≠ 0) (bm : b ≠ -1) : I64 (a.tdiv b) ∧ (a.tmod b ≠ 0 → -4611686018427387904 ≤ a.tdiv b ∧ a.tdiv b ≤ 4611686018427387904) := by
  obtain ⟨a1, a2⟩ := ha
  by_cases b1 : b = 1
  · subst b1
    rw [Int.tdiv_one]
    exact ⟨⟨a1, a2⟩, fun h => absurd (by simp) h⟩
  · have h1 : (a.tdiv b).natAbs ≤ a.natAbs / 2 := by
      rw [Int.natAbs_tdiv]
      show a.natAbs / b.natAbs ≤ a.natAbs / 2
      exact Nat.div_le_div_left (by omega) (by decide)
    exact ⟨⟨by omega, by omega⟩, fun _ => ⟨by omega, by omega⟩⟩
theorem floor_same (a b : Int) (ha : I64 a) (b0 : b ≠ 0) (bm : b ≠ -1) (h : ¬ (a.tmod b ≠ 0 ∧ ¬ (a < 0 ↔ b < 0))) : wrap64 (a.tdiv b) = floorZ a b := by
  obtain ⟨⟨h1, h2⟩, _⟩ := tdiv_bd a b ha b0 bm
  unfold floorZ
  rw [if_neg b0, fdiv_of a b b0, if_neg h, Int.sub_zero, satZ_in _ h1 h2, IntWalk.wrap64_in _ ⟨by omega, by omega⟩]
theorem floor_less (a b : Int) (ha : I64 a) (b0 : b ≠ 0) (bm : b ≠ -1) (h : a.tmod b ≠ 0 ∧ ¬ (a < 0 ↔ b < 0)) : wrap64 (wrap64 (a.tdiv b) - 1) = floorZ a b := by
  obtain ⟨⟨h1, h2⟩, h3⟩ := tdiv_bd a b ha b0 bm
  obtain ⟨h4, h5⟩ := h3 h.1
  unfold floorZ
  rw [if_neg b0, fdiv_of a b b0, if_pos h, satZ_in _ (by omega) (by omega), IntWalk.wrap64_in (a.tdiv b) ⟨by omega, by omega⟩, IntWalk.wrap64_in _ ⟨by omega, by omega⟩]
theorem floor_m1 (a : Int) : satZ (-a) = floorZ a (-1) := by
  unfold floorZ
  rw [if_neg (by decide), fdiv_of a (-1) (by decide)]
  simp
theorem floor_0 (a : Int) : 0 = floorZ a 0 := rfl
theorem rest_0 (a : Int) : 0 = restZ a 0 := rfl
theorem rest_m1 (a : Int) : 0 = restZ a (-1) := by
  unfold restZ
  rw [if_neg (by decide), fmod_of a (-1) (by decide)]
  simp
theorem rest_same (a b : Int) (b0 : b ≠ 0) (h : ¬ (a.tmod b ≠ 0 ∧ ¬ (a.tmod b < 0 ↔ b < 0))) : a.tmod b = restZ a b := by
  unfold restZ; rw [if_neg b0, fmod_of a b b0, if_neg h, Int.add_zero]
theorem rest_more (a b : Int) (b0 : b ≠ 0) (hb : I64 b) (h : a.tmod b ≠ 0 ∧ ¬ (a.tmod b < 0 ↔ b < 0)) : wrap64 (a.tmod b + b) = restZ a b := by
  obtain ⟨b1, b2⟩ := hb
  have h1 := tmod_abs a b b0
  unfold restZ; rw [if_neg b0, fmod_of a b b0, if_pos h, IntWalk.wrap64_in _ ⟨by omega, by omega⟩]
theorem two_signs {x y z : Int} (h : (x != 0) = true ∧ (!decide (y < 0) == decide (z < 0)) = true) : x ≠ 0 ∧ ¬ (y < 0 ↔ z < 0) := by
  obtain ⟨h1, h2⟩ := h
  refine ⟨by simpa using h1, fun e => ?_⟩
  by_cases hy : y < 0 <;> by_cases hz : z < 0 <;> simp [hy, hz] at h2 <;> omega
theorem one_sign {x y z : Int} (h : (x != 0) = false ∨ (!decide (y < 0) == decide (z < 0)) = false) : ¬ (x ≠ 0 ∧ ¬ (y < 0 ↔ z < 0)) := by
  rintro ⟨h1, h2⟩
  rcases h with h | h
  · exact h1 (by simpa using h)
  · by_cases hy : y < 0 <;> by_cases hz : z < 0 <;> simp [hy, hz] at h <;> omega
attribute [local irreducible] floorZ restZ

/-! ### going round -/
/-- how far a is behind b, going round 32 bits -/
def behindZ (a b : Int) : Int := if (a - b) % 4294967296 < 2147483648 then (a - b) % 4294967296 else (a - b) % 4294967296 - 4294967296
theorem behindZ_bd (a b : Int) : -2147483648 ≤ behindZ a b ∧ behindZ a b < 2147483648 := by unfold behindZ; split <;> omega
theorem behind_wrap (a b : Int) : wrap64 (wrap32 ((a - b) % 4294967296)) = behindZ a b := by
  have h : wrap32 ((a - b) % 4294967296) = behindZ a b := by
    unfold wrap32 behindZ
    split <;> omega
  have := behindZ_bd a b
  rw [h, IntWalk.wrap64_in _ ⟨by omega, by omega⟩]
attribute [local irreducible] behindZ
end Go.Proofs.Ytdpmhfpoendooaa

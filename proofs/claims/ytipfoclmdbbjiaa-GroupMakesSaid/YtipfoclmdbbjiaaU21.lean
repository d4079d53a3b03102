import Derived.Test.YtipfoclmdbbjiaaU01
/- The contracts of package word: what each function computes, in plain integers. Conditions: the arguments are numbers of their kinds. -/
namespace Go.Proofs.Ytipfoclmdbbjiaa
open Go.RowKit

/-- held at the limits of 64 bits -/
def satZ (n : Int) : Int := if 9223372036854775807 < n then 9223372036854775807 else if n < -9223372036854775808 then -9223372036854775808 else n
set_option maxRecDepth 100000 in
theorem satZ_bd (n : Int) : -9223372036854775808 ≤ satZ n ∧ satZ n ≤ 9223372036854775807 := by unfold satZ; split <;> (try split) <;> omega
set_option maxRecDepth 100000 in
theorem satZ_in (n : Int) (h1 : -9223372036854775808 ≤ n) (h2 : n ≤ 9223372036854775807) : satZ n = n := by unfold satZ; rw [if_neg (by omega), if_neg (by omega)]
set_option maxRecDepth 100000 in
theorem satZ_hi (n : Int) (h : 9223372036854775807 ≤ n) : satZ n = 9223372036854775807 := by unfold satZ; split <;> (try split) <;> omega
set_option maxRecDepth 100000 in
theorem satZ_lo (n : Int) (h : n ≤ -9223372036854775808) : satZ n = -9223372036854775808 := by unfold satZ; split <;> (try split) <;> omega
def I64 (a : Int) : Prop := -9223372036854775808 ≤ a ∧ a ≤ 9223372036854775807
attribute [local irreducible] satZ

set_option maxRecDepth 100000 in
set_option maxHeartbeats 400000 in
theorem w_sub (a b : Int) (w : World) (ha : I64 a) (hb : I64 b) :
    Calls Try.prog 75 #[.int .i64 a, .int .i64 b] w fun e w' => e = .returned (.int .i64 (satZ (a - b))) ∧ w = w' := by
  obtain ⟨a1, a2⟩ := ha
  obtain ⟨b1, b2⟩ := hb
  go_enter Try.func75, Try.ntmps75
  go_wp2_with fail
  all_goals
    go_ret
    exact ⟨ret_int (by first | rw [satZ_in _ (by omega) (by omega)] | rw [satZ_hi _ (by omega)] | rw [satZ_lo _ (by omega)]), rfl⟩

/-! ### quotients rounded down -/
/-- the quotient rounded down, held; 0 by 0 -/
def floorZ (a b : Int) : Int := if b = 0 then 0 else satZ (a.fdiv b)
/-- what it leaves; 0 by 0 -/
def restZ (a b : Int) : Int := if b = 0 then 0 else a.fmod b
set_option maxRecDepth 100000 in
theorem fdiv_of (a b : Int) (b0 : b ≠ 0) : a.fdiv b = a.tdiv b - (if a.tmod b ≠ 0 ∧ ¬ (a < 0 ↔ b < 0) then 1 else 0) := by
  rw [Int.fdiv_eq_tdiv]
  by_cases h : a.tmod b = 0
  · rw [if_pos (Int.dvd_of_tmod_eq_zero h), if_neg (by simp [h])]
  · rw [if_neg (fun e => h (Int.tmod_eq_zero_of_dvd e))]
    by_cases ha : 0 ≤ a <;> by_cases hb : 0 ≤ b
    · rw [if_pos ha, if_pos hb, if_neg (by omega)]
    · rw [if_pos ha, if_neg hb, if_pos (by omega)]
    · rw [if_neg ha, if_pos hb, if_pos (by omega), Int.sign_eq_one_of_pos (by omega)]
    · rw [if_neg ha, if_neg hb, if_neg (by omega), Int.sign_eq_neg_one_of_neg (by omega)]; omega
set_option maxRecDepth 100000 in
theorem tmod_sign (a b : Int) (h : a.tmod b ≠ 0) : a.tmod b < 0 ↔ a < 0 := by
  rcases Int.lt_or_le a 0 with ha | ha
  · have := Int.tmod_nonneg (a := -a) b (by omega)
    rw [Int.neg_tmod] at this
    omega
  · have := Int.tmod_nonneg (a := a) b ha
    omega
set_option maxRecDepth 100000 in
theorem tmod_abs (a b : Int) (b0 : b ≠ 0) : (a.tmod b).natAbs < b.natAbs := by
  rw [Int.natAbs_tmod]; exact Nat.mod_lt _ (by omega)
set_option maxRecDepth 100000 in
theorem fmod_of (a b : Int) (b0 : b ≠ 0) : a.fmod b = a.tmod b + (if a.tmod b ≠ 0 ∧ ¬ (a.tmod b < 0 ↔ b < 0) then b else 0) := by
  rw [Int.fmod_eq_tmod]
  by_cases h : a.tmod b = 0
  · rw [if_pos (Int.dvd_of_tmod_eq_zero h), if_neg (by simp [h])]
  · have hs := tmod_sign a b h
    rw [if_neg (fun e => h (Int.tmod_eq_zero_of_dvd e))]
    by_cases ha : 0 ≤ a <;> by_cases hb : 0 ≤ b
    · rw [if_pos ha, if_pos hb, if_neg (by omega)]
    · rw [if_pos ha, if_neg hb, if_pos (by omega)]
    · rw [if_neg ha, if_pos hb, if_pos (by omega)]; omega
    · rw [if_neg ha, if_neg hb, if_neg (by omega)]; omega
set_option maxRecDepth 100000 in
theorem tdiv_bd (a b : Int) (ha : I64 a) (b0 : b ≠ 0) (bm : b ≠ -1) : I64 (a.tdiv b) ∧ (a.tmod b ≠ 0 → -4611686018427387904 ≤ a.tdiv b ∧ a.tdiv b ≤ 4611686018427387904) := by
  obtain ⟨a1, a2⟩ := ha
  by_cases b1 : b = 1
  · subst b1
    rw [Int.tdiv_one]
    exact ⟨⟨a1, a2⟩, fun h => absurd (by simp) h⟩
  · have h1 : (a.tdiv b).natAbs ≤ a.natAbs / 2 := by
      rw [Int.natAbs_tdiv]
      show a.natAbs / b.natAbs ≤ a.natAbs / 2
      exact Nat.div_le_div_left (by omega) (by decide)
    exact ⟨⟨by omega, by omega⟩, fun _ => ⟨by omega, by omega⟩⟩
set_option maxRecDepth 100000 in
theorem floor_same (a b : Int) (ha : I64 a) (b0 : b ≠ 0) (bm : b ≠ -1) (h : ¬ (a.tmod b ≠ 0 ∧ ¬ (a < 0 ↔ b < 0))) : wrap64 (a.tdiv b) = floorZ a b := by
  obtain ⟨⟨h1, h2⟩, _⟩ := tdiv_bd a b ha b0 bm
  unfold floorZ
  rw [if_neg b0, fdiv_of a b b0, if_neg h, Int.sub_zero, satZ_in _ h1 h2, IntWalk.wrap64_in _ ⟨by omega, by omega⟩]
set_option maxRecDepth 100000 in
theorem floor_less (a b : Int) (ha : I64 a) (b0 : b ≠ 0) (bm : b ≠ -1) (h : a.tmod b ≠ 0 ∧ ¬ (a < 0 ↔ b < 0)) : wrap64 (wrap64 (a.tdiv b) - 1) = floorZ a b := by
  obtain ⟨⟨h1, h2⟩, h3⟩ := tdiv_bd a b ha b0 bm
  obtain ⟨h4, h5⟩ := h3 h.1
  unfold floorZ
  rw [if_neg b0, fdiv_of a b b0, if_pos h, satZ_in _ (by omega) (by omega), IntWalk.wrap64_in (a.tdiv b) ⟨by omega, by omega⟩, IntWalk.wrap64_in _ ⟨by omega, by omega⟩]
set_option maxRecDepth 100000 in
theorem floor_m1 (a : Int) : satZ (-a) = floorZ a (-1) := by
  unfold floorZ
  rw [if_neg (by decide), fdiv_of a (-1) (by decide)]
  simp
set_option maxRecDepth 100000 in
theorem floor_0 (a : Int) : 0 = floorZ a 0 := rfl
set_option maxRecDepth 100000 in
theorem rest_0 (a : Int) : 0 = restZ a 0 := rfl
set_option maxRecDepth 100000 in
theorem rest_m1 (a : Int) : 0 = restZ a (-1) := by
  unfold restZ
  rw [if_neg (by decide), fmod_of a (-1) (by decide)]
  simp
set_option maxRecDepth 100000 in
theorem rest_same (a b : Int) (b0 : b ≠ 0) (h : ¬ (a.tmod b ≠ 0 ∧ ¬ (a.tmod b < 0 ↔ b < 0))) : a.tmod b = restZ a b := by
  unfold restZ; rw [if_neg b0, fmod_of a b b0, if_neg h, Int.add_zero]
set_option maxRecDepth 100000 in
theorem rest_more (a b : Int) (b0 : b ≠ 0) (hb : I64 b) (h : a.tmod b ≠ 0 ∧ ¬ (a.tmod b < 0 ↔ b < 0)) : wrap64 (a.tmod b + b) = restZ a b := by
  obtain ⟨b1, b2⟩ := hb
  have h1 := tmod_abs a b b0
  unfold restZ; rw [if_neg b0, fmod_of a b b0, if_pos h, IntWalk.wrap64_in _ ⟨by omega, by omega⟩]
set_option maxRecDepth 100000 in
theorem two_signs {x y z : Int} (h : (x != 0) = true ∧ (!decide (y < 0) == decide (z < 0)) = true) : x ≠ 0 ∧ ¬ (y < 0 ↔ z < 0) := by
  obtain ⟨h1, h2⟩ := h
  refine ⟨by simpa using h1, fun e => ?_⟩
  by_cases hy : y < 0 <;> by_cases hz : z < 0 <;> simp [hy, hz] at h2 <;> omega
set_option maxRecDepth 100000 in
theorem one_sign {x y z : Int} (h : (x != 0) = false ∨ (!decide (y < 0) == decide (z < 0)) = false) : ¬ (x ≠ 0 ∧ ¬ (y < 0 ↔ z < 0)) := by
  rintro ⟨h1, h2⟩
  rcases h with h | h
  · exact h1 (by simpa using h)
  · by_cases hy : y < 0 <;> by_cases hz : z < 0 <;> simp [hy, hz] at h <;> omega
attribute [local irreducible] floorZ restZ

set_option maxRecDepth 100000 in
set_option maxHeartbeats 400000 in
theorem w_floor (a b : Int) (w : World) (ha : I64 a) (hb : I64 b) :
    Calls Try.prog 73 #[.int .i64 a, .int .i64 b] w fun e w' => e = .returned (.int .i64 (floorZ a b)) ∧ w = w' := by
  obtain ⟨a1, a2⟩ := ha
  obtain ⟨b1, b2⟩ := hb
  by_cases b0 : b = 0
  · subst b0
    go_enter Try.func73, Try.ntmps73
    go_wp2_with fail
    go_ret
    exact ⟨ret_int (floor_0 a), rfl⟩
  · by_cases bm : b = -1
    · subst bm
      go_enter Try.func73, Try.ntmps73
      go_wp2_with fail
      refine (w_sub 0 a _ ⟨by decide, by decide⟩ ⟨a1, a2⟩).mono ?_
      rintro e w' ⟨rfl, rfl⟩
      go_wp2_with fail
      go_ret
      exact ⟨ret_int (floor_m1 a), rfl⟩
    · have e0 : (b == 0) = false := by simp; exact b0
      have e1 : (b == -1) = false := by simp; exact bm
      go_enter Try.func73, Try.ntmps73
      go_wp2_with fail
      · have h : a.tmod b = 0 := by assumption
        go_ret
        exact ⟨ret_int (floor_same a b ⟨a1, a2⟩ b0 bm (fun e => e.1 h)), rfl⟩
      · have h := two_signs ‹(a.tmod b != 0) = true ∧ (!decide (a < 0) == decide (b < 0)) = true›
        go_ret
        exact ⟨ret_int (floor_less a b ⟨a1, a2⟩ b0 bm h), rfl⟩
      · have h := one_sign ‹(a.tmod b != 0) = false ∨ (!decide (a < 0) == decide (b < 0)) = false›
        go_ret
        exact ⟨ret_int (floor_same a b ⟨a1, a2⟩ b0 bm h), rfl⟩

/-! ### going round -/
/-- how far a is behind b, going round 32 bits -/
def behindZ (a b : Int) : Int := if (a - b) % 4294967296 < 2147483648 then (a - b) % 4294967296 else (a - b) % 4294967296 - 4294967296
set_option maxRecDepth 100000 in
theorem behindZ_bd (a b : Int) : -2147483648 ≤ behindZ a b ∧ behindZ a b < 2147483648 := by unfold behindZ; split <;> omega
set_option maxRecDepth 100000 in
theorem behind_wrap (a b : Int) : wrap64 (wrap32 ((a - b) % 4294967296)) = behindZ a b := by
  have h : wrap32 ((a - b) % 4294967296) = behindZ a b := by
    unfold wrap32 behindZ
    split <;> omega
  have := behindZ_bd a b
  rw [h, IntWalk.wrap64_in _ ⟨by omega, by omega⟩]
attribute [local irreducible] behindZ
end Go.Proofs.Ytipfoclmdbbjiaa

/- Clamp, Abs, Abs64, Sum of package word. Conditions: the arguments are numbers of their kinds. -/
namespace Go.Proofs.Ytipfoclmdbbjiaa
open Go.RowKit
/-- held within two others -/
def clampZ (n lo hi : Int) : Int := max lo (min n (max lo hi))
set_option maxRecDepth 100000 in
theorem clampZ_bd (n lo hi : Int) (h : lo ≤ hi) : lo ≤ clampZ n lo hi ∧ clampZ n lo hi ≤ hi := by unfold clampZ; omega
set_option maxRecDepth 100000 in
set_option maxHeartbeats 400000 in
theorem w_clamp (n lo hi : Int) (w : World) :
    Calls Try.prog 66 #[.int .i64 n, .int .i64 lo, .int .i64 hi] w fun e w' => e = .returned (.int .i64 (clampZ n lo hi)) ∧ w = w' := by
  go_enter Try.func66, Try.ntmps66
  go_wp2_with fail
  all_goals
    go_ret
    exact ⟨ret_int (by unfold clampZ; omega), rfl⟩
attribute [local irreducible] satZ
set_option maxRecDepth 100000 in
set_option maxHeartbeats 400000 in
theorem w_abs64 (n : Int) (w : World) (hn : I64 n) :
    Calls Try.prog 77 #[.int .i64 n] w fun e w' => e = .returned (.int .u64 n.natAbs) ∧ w = w' := by
  obtain ⟨n1, n2⟩ := hn
  by_cases hneg : n < 0
  · go_enter Try.func77, Try.ntmps77
    go_wp2_with fail
    go_ret
    exact ⟨ret_int (by rw [IntKind.wrap_u64, IntKind.wrap_u64]; omega), rfl⟩
  · go_enter Try.func77, Try.ntmps77
    go_wp2_with fail
    go_ret
    exact ⟨ret_int (by omega), rfl⟩
/-- the sum of many, held each time -/
def sumZ (l : List Int) : Int := l.foldl (fun n x => satZ (n + x)) 0
set_option maxRecDepth 100000 in
theorem sumZ_take (l : List Int) (k : Nat) (x : Int) (h : l[k]? = some x) : sumZ (l.take (k + 1)) = satZ (sumZ (l.take k) + x) := by
  rw [List.take_add_one, h]; simp [sumZ]
set_option maxRecDepth 100000 in
theorem sumZ_bd (l : List Int) (k : Nat) : I64 (sumZ (l.take k)) := by
  induction k with
  | zero => exact ⟨by simp [sumZ], by simp [sumZ]⟩
  | succ k ih =>
    rcases hx : l[k]? with _ | x
    · rw [List.take_add_one, hx]; simpa using ih
    · rw [sumZ_take l k x hx]; exact satZ_bd _
set_option maxRecDepth 100000 in
theorem sumZ_nil : sumZ [] = 0 := rfl
attribute [local irreducible] sumZ
end Go.Proofs.Ytipfoclmdbbjiaa

/- Digits of natural numbers to the base 65536: sums, differences and products digit by digit. No program is in sight. -/
namespace Go.Proofs.Ytipfoclmdbbjiaa
def B16 : Nat := 65536
/-- digit i of v -/
def dg (v i : Nat) : Nat := v / 65536 ^ i % 65536
set_option maxRecDepth 100000 in
theorem dg_lt (v i : Nat) : dg v i < 65536 := Nat.mod_lt _ (by decide)
set_option maxRecDepth 100000 in
theorem pw_pos (k : Nat) : 0 < 65536 ^ k := Nat.pow_pos (by decide)
/-- the carry of a sum ahead of digit k -/
def carryP (a b k : Nat) : Nat := (a % 65536 ^ k + b % 65536 ^ k) / 65536 ^ k
set_option maxRecDepth 100000 in
theorem carryP_zero (a b : Nat) : carryP a b 0 = 0 := by simp [carryP, Nat.mod_one]
set_option maxRecDepth 100000 in
theorem carryP_le (a b k : Nat) : carryP a b k ≤ 1 := by
  unfold carryP
  have h1 := Nat.mod_lt a (pw_pos k)
  have h2 := Nat.mod_lt b (pw_pos k)
  apply Nat.le_of_lt_succ
  apply Nat.div_lt_of_lt_mul
  omega
set_option maxRecDepth 100000 in
theorem add_div3 (a b p : Nat) (hp : 0 < p) : (a + b) / p = a / p + b / p + (a % p + b % p) / p := by
  have ha := Nat.div_add_mod a p
  have hb := Nat.div_add_mod b p
  have h : a + b = (a % p + b % p) + p * (a / p + b / p) := by rw [Nat.mul_add]; omega
  conv => lhs; rw [h, Nat.add_mul_div_left _ _ hp]
  omega
set_option maxRecDepth 100000 in
theorem add_dg (a b k : Nat) : (dg a k + dg b k + carryP a b k) % 65536 = dg (a + b) k := by
  unfold dg carryP
  rw [add_div3 a b _ (pw_pos k)]
  omega
set_option maxRecDepth 100000 in
theorem mod_step (a k : Nat) : a % 65536 ^ (k + 1) = a % 65536 ^ k + 65536 ^ k * dg a k := by
  rw [Nat.pow_succ, Nat.mod_mul]; rfl
set_option maxRecDepth 100000 in
theorem add_carry (a b k : Nat) : (dg a k + dg b k + carryP a b k) / 65536 = carryP a b (k + 1) := by
  unfold carryP
  rw [mod_step a k, mod_step b k, Nat.pow_succ, ← Nat.div_div_eq_div_mul]
  congr 1
  rw [show a % 65536 ^ k + 65536 ^ k * dg a k + (b % 65536 ^ k + 65536 ^ k * dg b k) = (a % 65536 ^ k + b % 65536 ^ k) + 65536 ^ k * (dg a k + dg b k) by rw [Nat.mul_add]; omega]
  rw [Nat.add_mul_div_left _ _ (pw_pos k)]
  omega
/-- the borrow of a difference ahead of digit k -/
def borrowP (a b k : Nat) : Nat := if a % 65536 ^ k < b % 65536 ^ k then 1 else 0
set_option maxRecDepth 100000 in
theorem borrowP_zero (a b : Nat) : borrowP a b 0 = 0 := by simp [borrowP, Nat.mod_one]
set_option maxRecDepth 100000 in
theorem borrowP_le (a b k : Nat) : borrowP a b k ≤ 1 := by unfold borrowP; split <;> omega
set_option maxRecDepth 100000 in
theorem sub_div (a b p : Nat) (hp : 0 < p) (h : b ≤ a) : (a - b) / p = a / p - b / p - (if a % p < b % p then 1 else 0) := by
  have ha := Nat.div_add_mod a p
  have hb := Nat.div_add_mod b p
  have ha' := Nat.mod_lt a hp
  have hb' := Nat.mod_lt b hp
  have hq : b / p ≤ a / p := Nat.div_le_div_right h
  obtain ⟨d, hd⟩ : ∃ d, a / p = b / p + d := ⟨a / p - b / p, by omega⟩
  have hmul : p * (a / p) = p * (b / p) + p * d := by rw [hd, Nat.mul_add]
  split
  · rename_i hlt
    have hd1 : 1 ≤ d := by
      by_cases e : d = 0
      · rw [e] at hmul; simp at hmul; omega
      · omega
    obtain ⟨d', rfl⟩ : ∃ d', d = d' + 1 := ⟨d - 1, by omega⟩
    rw [Nat.mul_add, Nat.mul_one] at hmul
    have : a - b = (a % p + p - b % p) + p * d' := by omega
    rw [this, Nat.add_mul_div_left _ _ hp, Nat.div_eq_of_lt (by omega)]
    omega
  · rename_i hge
    have : a - b = (a % p - b % p) + p * d := by omega
    rw [this, Nat.add_mul_div_left _ _ hp, Nat.div_eq_of_lt (by omega)]
    omega
set_option maxRecDepth 100000 in
theorem sub_dg (a b k : Nat) (h : b ≤ a) : (dg a k + 65536 - dg b k - borrowP a b k) % 65536 = dg (a - b) k := by
  unfold dg borrowP
  rw [sub_div a b _ (pw_pos k) h]
  have hq : b / 65536 ^ k + (if a % 65536 ^ k < b % 65536 ^ k then 1 else 0) ≤ a / 65536 ^ k := by
    have hq0 : b / 65536 ^ k ≤ a / 65536 ^ k := Nat.div_le_div_right h
    split
    · rename_i hlt
      rcases Nat.lt_or_eq_of_le hq0 with hq | hq
      · omega
      · exfalso
        have ha := Nat.div_add_mod a (65536 ^ k)
        have hb := Nat.div_add_mod b (65536 ^ k)
        rw [hq] at hb
        omega
    · omega
  split at hq <;> (rename_i hc; simp only [hc, if_true, if_false] at *) <;> omega
set_option maxRecDepth 100000 in
theorem sub_borrow (a b k : Nat) : 1 - (dg a k + 65536 - dg b k - borrowP a b k) / 65536 = borrowP a b (k + 1) := by
  have h1 := dg_lt a k
  have h2 := dg_lt b k
  have h3 := borrowP_le a b k
  have key : borrowP a b (k + 1) = if dg a k < dg b k + borrowP a b k then 1 else 0 := by
    unfold borrowP
    rw [mod_step a k, mod_step b k]
    have ha := Nat.mod_lt a (pw_pos k)
    have hb := Nat.mod_lt b (pw_pos k)
    have hlt : ∀ x y : Nat, x < y → 65536 ^ k * x + 65536 ^ k ≤ 65536 ^ k * y := fun x y hxy => by
      have := Nat.mul_le_mul_left (65536 ^ k) (show x + 1 ≤ y from hxy)
      rwa [Nat.mul_add, Nat.mul_one] at this
    rcases Nat.lt_trichotomy (dg a k) (dg b k) with hc | hc | hc
    · have := hlt _ _ hc
      rw [if_pos (by omega), if_pos (by omega)]
    · rw [hc]
      by_cases hm : a % 65536 ^ k < b % 65536 ^ k
      · simp [hm]
      · simp [hm]
    · have := hlt _ _ hc
      rw [if_neg (by omega), if_neg (by split <;> omega)]
  rw [key]
  split <;> omega
/-! ### order, by the highest digit that parts -/
set_option maxRecDepth 100000 in
theorem div_step (a i : Nat) : a / 65536 ^ i = (a / 65536 ^ (i + 1)) * 65536 + dg a i := by
  unfold dg
  rw [Nat.pow_succ, ← Nat.div_div_eq_div_mul]
  omega
set_option maxRecDepth 100000 in
theorem lt_of_div (a b p : Nat) (hp : 0 < p) (h : a / p < b / p) : a < b := by
  rcases Nat.lt_or_ge a b with hl | hl
  · exact hl
  · have := Nat.div_le_div_right (c := p) hl; omega
set_option maxRecDepth 100000 in
theorem less_at (a b i : Nat) (h : a / 65536 ^ (i + 1) = b / 65536 ^ (i + 1)) (hn : dg a i ≠ dg b i) : (dg a i < dg b i ↔ a < b) := by
  have ha := div_step a i
  have hb := div_step b i
  rw [h] at ha
  constructor
  · intro hl; exact lt_of_div _ _ _ (pw_pos i) (by omega)
  · intro hl
    have : a / 65536 ^ i ≤ b / 65536 ^ i := Nat.div_le_div_right (Nat.le_of_lt hl)
    omega
set_option maxRecDepth 100000 in
theorem eq_at (a b i : Nat) (h : a / 65536 ^ (i + 1) = b / 65536 ^ (i + 1)) (he : dg a i = dg b i) : a / 65536 ^ i = b / 65536 ^ i := by
  rw [div_step a i, div_step b i, h, he]
/-! ### a digit times a number -/
def carryM (x b k : Nat) : Nat := (x * (b % 65536 ^ k)) / 65536 ^ k
set_option maxRecDepth 100000 in
theorem carryM_zero (x b : Nat) : carryM x b 0 = 0 := by simp [carryM, Nat.mod_one]
set_option maxRecDepth 100000 in
theorem carryM_lt (x b k : Nat) (hx : x < 65536) : carryM x b k ≤ 65535 := by
  unfold carryM
  have h := Nat.mod_lt b (pw_pos k)
  apply Nat.le_of_lt_succ
  apply Nat.div_lt_of_lt_mul
  rcases Nat.eq_zero_or_pos x with h0 | h0
  · rw [h0, Nat.zero_mul]; exact Nat.mul_pos (pw_pos k) (by decide)
  · calc x * (b % 65536 ^ k) < x * 65536 ^ k := Nat.mul_lt_mul_of_pos_left h h0
      _ ≤ 65536 ^ k * 65536 := by rw [Nat.mul_comm]; exact Nat.mul_le_mul_left _ (by omega)
set_option maxRecDepth 100000 in
theorem mul_carry (x b k : Nat) : (x * dg b k + carryM x b k) / 65536 = carryM x b (k + 1) := by
  unfold carryM
  rw [mod_step b k, Nat.pow_succ, ← Nat.div_div_eq_div_mul]
  congr 1
  rw [Nat.mul_add, ← Nat.mul_assoc, Nat.mul_comm x (65536 ^ k), Nat.mul_assoc, Nat.add_mul_div_left _ _ (pw_pos k)]
  omega
set_option maxRecDepth 100000 in
theorem mul_dg (x b k : Nat) : (x * dg b k + carryM x b k) % 65536 = dg (x * b) k := by
  have hb : b = b % 65536 ^ k + 65536 ^ k * (b / 65536 ^ k) := by have := Nat.mod_add_div b (65536 ^ k); omega
  have h : x * b / 65536 ^ k = x * (b / 65536 ^ k) + carryM x b k := by
    unfold carryM
    conv => lhs; rw [hb, Nat.mul_add, ← Nat.mul_assoc, Nat.mul_comm x (65536 ^ k), Nat.mul_assoc, Nat.add_mul_div_left _ _ (pw_pos k)]
    omega
  show _ = x * b / 65536 ^ k % 65536
  rw [h]
  unfold dg
  rw [Nat.add_mod, Nat.mul_mod, Nat.mod_mod, ← Nat.mul_mod, ← Nat.add_mod]
/-! ### shifted numbers, sums of rows -/
set_option maxRecDepth 100000 in
theorem dg_shift (v i j : Nat) : dg (v * 65536 ^ i) j = if j < i then 0 else dg v (j - i) := by
  unfold dg
  split
  · rename_i h
    have : v * 65536 ^ i = 65536 ^ j * (v * 65536 ^ (i - j)) := by
      rw [Nat.mul_comm (65536 ^ j), Nat.mul_assoc, ← Nat.pow_add, show i - j + j = i by omega]
    rw [this, Nat.mul_div_cancel_left _ (pw_pos j)]
    obtain ⟨m, hm⟩ : ∃ m, i - j = m + 1 := ⟨i - j - 1, by omega⟩
    rw [hm, Nat.pow_succ, ← Nat.mul_assoc]
    exact Nat.mul_mod_left _ _
  · rename_i h
    have : 65536 ^ j = 65536 ^ i * 65536 ^ (j - i) := by rw [← Nat.pow_add, show i + (j - i) = j by omega]
    rw [this, ← Nat.div_div_eq_div_mul, Nat.mul_div_cancel _ (pw_pos i)]
set_option maxRecDepth 100000 in
theorem dg_small (v i : Nat) (h : v < 65536 ^ i) : dg v i = 0 := by unfold dg; rw [Nat.div_eq_of_lt h]
set_option maxRecDepth 100000 in
theorem dg_over (v i k : Nat) (h : v < 65536 ^ k) (hk : k ≤ i) : dg v i = 0 :=
  dg_small v i (Nat.lt_of_lt_of_le h (Nat.pow_le_pow_right (by decide) hk))
set_option maxRecDepth 100000 in
theorem dg_zero (i : Nat) : dg 0 i = 0 := by simp [dg]
set_option maxRecDepth 100000 in
theorem mod_succ_mul (a b k : Nat) : (a % 65536 ^ k) * b + dg a k * b * 65536 ^ k = (a % 65536 ^ (k + 1)) * b := by
  rw [mod_step a k, Nat.add_mul]
  congr 1
  rw [Nat.mul_comm (65536 ^ k), Nat.mul_assoc, Nat.mul_assoc, Nat.mul_comm b]
set_option maxRecDepth 100000 in
/-- from the highest digit down: the word of the digits from k on -/
theorem word_down (v k : Nat) : (v / 65536 ^ (k + 1)) * 65536 + dg v k = v / 65536 ^ k := (div_step v k).symm
end Go.Proofs.Ytipfoclmdbbjiaa

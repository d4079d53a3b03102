/- Digits of natural numbers to the base 65536: sums, differences and products digit by digit. No program is in sight. -/
namespace Go.Proofs.Ytpeloeiiaikadaa
def B16 : Nat := 65536
/-- digit i of v -/
def dg (v i : Nat) : Nat := v / 65536 ^ i % 65536
theorem dg_lt (v i : Nat) : dg v i < 65536 := Nat.mod_lt _ (by decide)
theorem pw_pos (k : Nat) : 0 < 65536 ^ k := Nat.pow_pos (by decide)
/-- the carry of a sum ahead of digit k -/
def carryP (a b k : Nat) : Nat := (a % 65536 ^ k + b % 65536 ^ k) / 65536 ^ k
theorem carryP_zero (a b : Nat) : carryP a b 0 = 0 := by simp [carryP, Nat.mod_one]
theorem carryP_le (a b k : Nat) : carryP a b k ≤ 1 := by
  unfold carryP
  have h1 := Nat.mod_lt a (pw_pos k)
  have h2 := Nat.mod_lt b (pw_pos k)
  apply Nat.le_of_lt_succ
  apply Nat.div_lt_of_lt_mul
  omega
theorem add_div3 (a b p : Nat) (hp : 0 < p) : (a + b) / p = a / p + b / p + (a % p + b % p) / p := by
  have ha := Nat.div_add_mod a p
  have hb := Nat.div_add_mod b p
  have h : a + b = (a % p + b % p) + p * (a / p + b / p) := by rw [Nat.mul_add]; omega
  conv => lhs; rw [h, Nat.add_mul_div_left _ _ hp]
  omega
theorem add_dg (a b k : Nat) : (dg a k + dg b k + carryP a b k) % 65536 = dg (a + b) k := by
  unfold dg carryP
  rw [add_div3 a b _ (pw_pos k)]
  omega
theorem mod_step (a k : Nat) : a % 65536 ^ (k + 1) = a % 65536 ^ k + 65536 ^ k * dg a k := by
  rw [Nat.pow_succ, Nat.mod_mul]; rfl
theorem add_carry (a b k : Nat) : (dg a k + dg b k + carryP a b k) / 65536 = carryP a b (k + 1) := by
  unfold carryP
  rw [mod_step a k, mod_step b k, Nat.pow_succ, ← Nat.div_div_eq_div_mul]
  congr 1
  rw [show a % 65536 ^ k + 65536 ^ k * dg a k + (b % 65536 ^ k + 65536 ^ k * dg b k) = (a % 65536 ^ k + b % 65536 ^ k) + 65536 ^ k * (dg a k + dg b k) by rw [Nat.mul_add]; omega]
  rw [Nat.add_mul_div_left _ _ (pw_pos k)]
  omega
/-- the borrow of a difference ahead of digit k -/
def borrowP (a b k : Nat) : Nat := if a % 65536 ^ k < b % 65536 ^ k then 1 else 0
theorem borrowP_zero (a b : Nat) : borrowP a b 0 = 0 := by simp [borrowP, Nat.mod_one]
theorem borrowP_le (a b k : Nat) : borrowP a b k ≤ 1 := by unfold borrowP; split <;> omega
theorem sub_div (a b p : Nat) (hp : 0 < p) (h : b ≤ a) : (a - b) / p = a / p - b / p - (if a % p < b % p then 1 else 0) := by
  have ha := Nat.div_add_mod a p
  have hb := Nat.div_add_mod b p
  have ha' := Nat.mod_lt a hp
  have hb' := Nat.mod_lt b hp
  have hq : b / p ≤ a / p := Nat.div_le_div_right h
  obtain ⟨d, hd⟩ : ∃ d, a / p = b / p + d := ⟨a / p - b / p, by omega⟩
  have hmul : p * (a / p) = p * (b / p) + p * d := by rw [hd, Nat.mul_add]
  split
  · rename_i hlt
    have hd1 : 1 ≤ d := by
      by_cases e : d = 0
      · rw [e] at hmul; simp at hmul; omega
      · omega
    obtain ⟨d', rfl⟩ : ∃ d', d = d' + 1 := ⟨d - 1, by omega⟩
    rw [Nat.mul_add, Nat.mul_one] at hmul
    have : a - b = (a % p + p - b % p) + p * d' := by omega
    rw [this, Nat.add_mul_div_left _ _ hp, Nat.div_eq_of_lt (by omega)]
    omega
  · rename_i hge
    have : a - b = (a % p - b % p) + p * d := by omega
    rw [this, Nat.add_mul_div_left _ _ hp, Nat.div_eq_of_lt (by omega)]
    omega
theorem sub_dg (a b k : Nat) (h : b ≤ a) : (dg a k + 65536 - dg b k - borrowP a b k) % 65536 = dg (a - b) k := by
  unfold dg borrowP
  rw [sub_div a b _ (pw_pos k) h]
  have hq : b / 65536 ^ k + (if a % 65536 ^ k < b % 65536 ^ k then 1 else 0) ≤ a / 65536 ^ k := by
    have hq0 : b / 65536 ^ k ≤ a / 65536 ^ k := Nat.div_le_div_right h
    split
    · rename_i hlt
      rcases Nat.lt_or_eq_of_le hq0 with hq | hq
      · omega
      · exfalso
        have ha := Nat.div_add_mod a (65536 ^ k)
        have hb := Nat.div_add_mod b (65536 ^ k)
        rw [hq] at hb
        omega
    · omega
  split at hq <;> (rename_i hc; simp only [hc, if_true, if_false] at *) <;> omega
theorem sub_borrow (a b k : Nat) : 1 - (dg a k + 65536 - dg b k - borrowP a b k) / 65536 = borrowP a b (k + 1) := by
  have h1 := dg_lt a k
  have h2 := dg_lt b k
  have h3 := borrowP_le a b k
  have key : borrowP a b (k + 1) = if dg a k < dg b k + borrowP a b k then 1 else 0 := by
    unfold borrowP
    rw [mod_step a k, mod_step b k]
    have ha := Nat.mod_lt a (pw_pos k)
    have hb := Nat.mod_lt b (pw_pos k)
    have hlt : ∀ x y : Nat, x < y → 65536 ^ k * x + 65536 ^ k ≤ 65536 ^ k * y := fun x y hxy => by
      have := Nat.mul_le_mul_left (65536 ^ k) (show x + 1 ≤ y from hxy)
      rwa [Nat.mul_add, Nat.mul_one] at this
    rcases Nat.lt_trichotomy (dg a k) (dg b k) with hc | hc | hc
    · have := hlt _ _ hc
      rw [if_pos (by omega), if_pos (by omega)]
    · rw [hc]
      by_cases hm : a % 65536 ^ k < b % 65536 ^ k
      · simp [hm]
      · simp [hm]
    · have := hlt _ _ hc
      rw [if_neg (by omega), if_neg (by split <;> omega)]
  rw [key]
  split <;> omega
/-! ### order, by the highest digit that parts -/
theorem div_step (a i : Nat) : a / 65536 ^ i = (a / 65536 ^ (i + 1)) * 65536 + dg a i := by
  unfold dg
  rw [Nat.pow_succ, ← Nat.div_div_eq_div_mul]
  omega
theorem lt_of_div (a b p : Nat) (hp : 0 < p) (h : a / p < b / p) : a < b := by
  rcases Nat.lt_or_ge a b with hl | hl
  · exact hl
  · have := Nat.div_le_div_right (c := p) hl; omega
theorem less_at (a b i : Nat) (h : a / 65536 ^ (i + 1) = b / 65536 ^ (i + 1)) (hn : dg a i ≠ dg b i) : (dg a i < dg b i ↔ a < b) := by
  have ha := div_step a i
  have hb := div_step b i
  rw [h] at ha
  constructor
  · intro hl; exact lt_of_div _ _ _ (pw_pos i) (by omega)
  · intro hl
    have : a / 65536 ^ i ≤ b / 65536 ^ i := Nat.div_le_div_right (Nat.le_of_lt hl)
    omega
theorem eq_at (a b i : Nat) (h : a / 65536 ^ (i + 1) = b / 65536 ^ (i + 1)) (he : dg a i = dg b i) : a / 65536 ^ i = b / 65536 ^ i := by
  rw [div_step a i, div_step b i, h, he]
/-! ### a digit times a number -/
def carryM (x b k : Nat) : Nat := (x * (b % 65536 ^ k)) / 65536 ^ k
theorem carryM_zero (x b : Nat) : carryM x b 0 = 0 := by simp [carryM, Nat.mod_one]
theorem carryM_lt (x b k : Nat) (hx : x < 65536) : carryM x b k ≤ 65535 := by
  unfold carryM
  have h := Nat.mod_lt b (pw_pos k)
  apply Nat.le_of_lt_succ
  apply Nat.div_lt_of_lt_mul
  rcases Nat.eq_zero_or_pos x with h0 | h0
  · rw [h0, Nat.zero_mul]; exact Nat.mul_pos (pw_pos k) (by decide)
  · calc x * (b % 65536 ^ k) < x * 65536 ^ k := Nat.mul_lt_mul_of_pos_left h h0
      _ ≤ 65536 ^ k * 65536 := by rw [Nat.mul_comm]; exact Nat.mul_le_mul_left _ (by omega)
theorem mul_carry (x b k : Nat) : (x * dg b k + carryM x b k) / 65536 = carryM x b (k + 1) := by
  unfold carryM
  rw [mod_step b k, Nat.pow_succ, ← Nat.div_div_eq_div_mul]
  congr 1
  rw [Nat.mul_add, ← Nat.mul_assoc, Nat.mul_comm x (65536 ^ k), Nat.mul_assoc, Nat.add_mul_div_left _ _ (pw_pos k)]
  omega
theorem mul_dg (x b k : Nat) : (x * dg b k + carryM x b k) % 65536 = dg (x * b) k := by
  have hb : b = b % 65536 ^ k + 65536 ^ k * (b / 65536 ^ k) := by have := Nat.mod_add_div b (65536 ^ k); omega
  have h : x * b / 65536 ^ k = x * (b / 65536 ^ k) + carryM x b k := by
    unfold carryM
    conv => lhs; rw [hb, Nat.mul_add, ← Nat.mul_assoc, Nat.mul_comm x (65536 ^ k), Nat.mul_assoc, Nat.add_mul_div_left _ _ (pw_pos k)]
    omega
  show _ = x * b / 65536 ^ k % 65536
  rw [h]
  unfold dg
  rw [Nat.add_mod, Nat.mul_mod, Nat.mod_mod, ← Nat.mul_mod, ← Nat.add_mod]
/-! ### shifted numbers, sums of rows -/
theorem dg_shift (v i j : Nat) : dg (v * 65536 ^ i) j = if j < i then 0 else dg v (j - i) := by
  unfold dg
  split
  · rename_i h
    have : v * 65536 ^ i = 65536 ^ j * (v * 65536 ^ (i - j)) := by
      rw [Nat.mul_comm (65536 ^ j), Nat.mul_assoc, ← Nat.pow_add, show i - j + j = i by omega]
    rw [this, Nat.mul_div_cancel_left _ (pw_pos j)]
    obtain ⟨m, hm⟩ : ∃ m, i - j = m + 1 := ⟨i - j - 1, by omega⟩
    rw [hm, Nat.pow_succ, ← Nat.mul_assoc]
    exact Nat.mul_mod_left _ _
  · rename_i h
    have : 65536 ^ j = 65536 ^ i * 65536 ^ (j - i) := by rw [← Nat.pow_add, show i + (j - i) = j by omega]
    rw [this, ← Nat.div_div_eq_div_mul, Nat.mul_div_cancel _ (pw_pos i)]
theorem dg_small (v i : Nat) (h : v < 65536 ^ i) : dg v i = 0 := by unfold dg; rw [Nat.div_eq_of_lt h]
theorem dg_over (v i k : Nat) (h : v < 65536 ^ k) (hk : k ≤ i) : dg v i = 0 :=
  dg_small v i (Nat.lt_of_lt_of_le h (Nat.pow_le_pow_right (by decide) hk))
theorem dg_zero (i : Nat) : dg 0 i = 0 := by simp [dg]
theorem mod_succ_mul (a b k : Nat) : (a % 65536 ^ k) * b + dg a k * b * 65536 ^ k = (a % 65536 ^ (k + 1)) * b := by
  rw [mod_step a k, Nat.add_mul]
  congr 1
  rw [Nat.mul_comm (65536 ^ k), Nat.mul_assoc, Nat.mul_assoc, Nat.mul_comm b]
/-- from the highest digit down: the word of the digits from k on -/
theorem word_down (v k : Nat) : (v / 65536 ^ (k + 1)) * 65536 + dg v k = v / 65536 ^ k := (div_step v k).symm
end Go.Proofs.Ytpeloeiiaikadaa

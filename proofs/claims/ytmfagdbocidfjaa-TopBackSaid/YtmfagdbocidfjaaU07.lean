import Derived.Test.YtmfagdbocidfjaaU01
import Derived.Laws.Rows
import Derived.Laws.CopyOwn
/- Digits of natural numbers to the base 65536: sums, differences and products digit by digit. No program is in sight. -/
namespace Go.Proofs.Ytmfagdbocidfjaa
def B16 : Nat := 65536
/-- digit i of v -/
def dg (v i : Nat) : Nat := v / 65536 ^ i % 65536
set_option maxRecDepth 100000 in
theorem dg_lt (v i : Nat) : dg v i < 65536 := Nat.mod_lt _ (by decide)
set_option maxRecDepth 100000 in
theorem pw_pos (k : Nat) : 0 < 65536 ^ k := Nat.pow_pos (by decide)
/-- the carry of a sum ahead of digit k -/
def carryP (a b k : Nat) : Nat := (a % 65536 ^ k + b % 65536 ^ k) / 65536 ^ k
set_option maxRecDepth 100000 in
theorem carryP_zero (a b : Nat) : carryP a b 0 = 0 := by simp [carryP, Nat.mod_one]
set_option maxRecDepth 100000 in
theorem carryP_le (a b k : Nat) : carryP a b k ≤ 1 := by
  unfold carryP
  have h1 := Nat.mod_lt a (pw_pos k)
  have h2 := Nat.mod_lt b (pw_pos k)
  apply Nat.le_of_lt_succ
  apply Nat.div_lt_of_lt_mul
  omega
set_option maxRecDepth 100000 in
theorem add_div3 (a b p : Nat) (hp : 0 < p) : (a + b) / p = a / p + b / p + (a % p + b % p) / p := by
  have ha := Nat.div_add_mod a p
  have hb := Nat.div_add_mod b p
  have h : a + b = (a % p + b % p) + p * (a / p + b / p) := by rw [Nat.mul_add]; omega
  conv => lhs; rw [h, Nat.add_mul_div_left _ _ hp]
  omega
set_option maxRecDepth 100000 in
theorem add_dg (a b k : Nat) : (dg a k + dg b k + carryP a b k) % 65536 = dg (a + b) k := by
  unfold dg carryP
  rw [add_div3 a b _ (pw_pos k)]
  omega
set_option maxRecDepth 100000 in
theorem mod_step (a k : Nat) : a % 65536 ^ (k + 1) = a % 65536 ^ k + 65536 ^ k * dg a k := by
  rw [Nat.pow_succ, Nat.mod_mul]; rfl
set_option maxRecDepth 100000 in
theorem add_carry (a b k : Nat) : (dg a k + dg b k + carryP a b k) / 65536 = carryP a b (k + 1) := by
  unfold carryP
  rw [mod_step a k, mod_step b k, Nat.pow_succ, ← Nat.div_div_eq_div_mul]
  congr 1
  rw [show a % 65536 ^ k + 65536 ^ k * dg a k + (b % 65536 ^ k + 65536 ^ k * dg b k) = (a % 65536 ^ k + b % 65536 ^ k) + 65536 ^ k * (dg a k + dg b k) by rw [Nat.mul_add]; omega]
  rw [Nat.add_mul_div_left _ _ (pw_pos k)]
  omega
/-- the borrow of a difference ahead of digit k -/
def borrowP (a b k : Nat) : Nat := if a % 65536 ^ k < b % 65536 ^ k then 1 else 0
set_option maxRecDepth 100000 in
theorem borrowP_zero (a b : Nat) : borrowP a b 0 = 0 := by simp [borrowP, Nat.mod_one]
set_option maxRecDepth 100000 in
theorem borrowP_le (a b k : Nat) : borrowP a b k ≤ 1 := by unfold borrowP; split <;> omega
set_option maxRecDepth 100000 in
theorem sub_div (a b p : Nat) (hp : 0 < p) (h : b ≤ a) : (a - b) / p = a / p - b / p - (if a % p < b % p then 1 else 0) := by
  have ha := Nat.div_add_mod a p
  have hb := Nat.div_add_mod b p
  have ha' := Nat.mod_lt a hp
  have hb' := Nat.mod_lt b hp
  have hq : b / p ≤ a / p := Nat.div_le_div_right h
  obtain ⟨d, hd⟩ : ∃ d, a / p = b / p + d := ⟨a / p - b / p, by omega⟩
  have hmul : p * (a / p) = p * (b / p) + p * d := by rw [hd, Nat.mul_add]
  split
  · rename_i hlt
    have hd1 : 1 ≤ d := by
      by_cases e : d = 0
      · rw [e] at hmul; simp at hmul; omega
      · omega
    obtain ⟨d', rfl⟩ : ∃ d', d = d' + 1 := ⟨d - 1, by omega⟩
    rw [Nat.mul_add, Nat.mul_one] at hmul
    have : a - b = (a % p + p - b % p) + p * d' := by omega
    rw [this, Nat.add_mul_div_left _ _ hp, Nat.div_eq_of_lt (by omega)]
    omega
  · rename_i hge
    have : a - b = (a % p - b % p) + p * d := by omega
    rw [this, Nat.add_mul_div_left _ _ hp, Nat.div_eq_of_lt (by omega)]
    omega
set_option maxRecDepth 100000 in
theorem sub_dg (a b k : Nat) (h : b ≤ a) : (dg a k + 65536 - dg b k - borrowP a b k) % 65536 = dg (a - b) k := by
  unfold dg borrowP
  rw [sub_div a b _ (pw_pos k) h]
  have hq : b / 65536 ^ k + (if a % 65536 ^ k < b % 65536 ^ k then 1 else 0) ≤ a / 65536 ^ k := by
    have hq0 : b / 65536 ^ k ≤ a / 65536 ^ k := Nat.div_le_div_right h
    split
    · rename_i hlt
      rcases Nat.lt_or_eq_of_le hq0 with hq | hq
      · omega
      · exfalso
        have ha := Nat.div_add_mod a (65536 ^ k)
        have hb := Nat.div_add_mod b (65536 ^ k)
        rw [hq] at hb
        omega
    · omega
  split at hq <;> (rename_i hc; simp only [hc, if_true, if_false] at *) <;> omega
set_option maxRecDepth 100000 in
theorem sub_borrow (a b k : Nat) : 1 - (dg a k + 65536 - dg b k - borrowP a b k) / 65536 = borrowP a b (k + 1) := by
  have h1 := dg_lt a k
  have h2 := dg_lt b k
  have h3 := borrowP_le a b k
  have key : borrowP a b (k + 1) = if dg a k < dg b k + borrowP a b k then 1 else 0 := by
    unfold borrowP
    rw [mod_step a k, mod_step b k]
    have ha := Nat.mod_lt a (pw_pos k)
    have hb := Nat.mod_lt b (pw_pos k)
    have hlt : ∀ x y : Nat, x < y → 65536 ^ k * x + 65536 ^ k ≤ 65536 ^ k * y := fun x y hxy => by
      have := Nat.mul_le_mul_left (65536 ^ k) (show x + 1 ≤ y from hxy)
      rwa [Nat.mul_add, Nat.mul_one] at this
    rcases Nat.lt_trichotomy (dg a k) (dg b k) with hc | hc | hc
    · have := hlt _ _ hc
      rw [if_pos (by omega), if_pos (by omega)]
    · rw [hc]
      by_cases hm : a % 65536 ^ k < b % 65536 ^ k
      · simp [hm]
      · simp [hm]
    · have := hlt _ _ hc
      rw [if_neg (by omega), if_neg (by split <;> omega)]
  rw [key]
  split <;> omega
/-! ### order, by the highest digit that parts -/
set_option maxRecDepth 100000 in
theorem div_step (a i : Nat) : a / 65536 ^ i = (a / 65536 ^ (i + 1)) * 65536 + dg a i := by
  unfold dg
  rw [Nat.pow_succ, ← Nat.div_div_eq_div_mul]
  omega
set_option maxRecDepth 100000 in
theorem lt_of_div (a b p : Nat) (_hp : 0 < p) (h : a / p < b / p) : a < b := by
  rcases Nat.lt_or_ge a b with hl | hl
  · exact hl
  · have := Nat.div_le_div_right (c := p) hl; omega
set_option maxRecDepth 100000 in
theorem less_at (a b i : Nat) (h : a / 65536 ^ (i + 1) = b / 65536 ^ (i + 1)) (hn : dg a i ≠ dg b i) : (dg a i < dg b i ↔ a < b) := by
  have ha := div_step a i
  have hb := div_step b i
  rw [h] at ha
  constructor
  · intro hl; exact lt_of_div _ _ _ (pw_pos i) (by omega)
  · intro hl
    have : a / 65536 ^ i ≤ b / 65536 ^ i := Nat.div_le_div_right (Nat.le_of_lt hl)
    omega
set_option maxRecDepth 100000 in
theorem eq_at (a b i : Nat) (h : a / 65536 ^ (i + 1) = b / 65536 ^ (i + 1)) (he : dg a i = dg b i) : a / 65536 ^ i = b / 65536 ^ i := by
  rw [div_step a i, div_step b i, h, he]
/-! ### a digit times a number -/
def carryM (x b k : Nat) : Nat := (x * (b % 65536 ^ k)) / 65536 ^ k
set_option maxRecDepth 100000 in
theorem carryM_zero (x b : Nat) : carryM x b 0 = 0 := by simp [carryM, Nat.mod_one]
set_option maxRecDepth 100000 in
theorem carryM_lt (x b k : Nat) (hx : x < 65536) : carryM x b k ≤ 65535 := by
  unfold carryM
  have h := Nat.mod_lt b (pw_pos k)
  apply Nat.le_of_lt_succ
  apply Nat.div_lt_of_lt_mul
  rcases Nat.eq_zero_or_pos x with h0 | h0
  · rw [h0, Nat.zero_mul]; exact Nat.mul_pos (pw_pos k) (by decide)
  · calc x * (b % 65536 ^ k) < x * 65536 ^ k := Nat.mul_lt_mul_of_pos_left h h0
      _ ≤ 65536 ^ k * 65536 := by rw [Nat.mul_comm]; exact Nat.mul_le_mul_left _ (by omega)
set_option maxRecDepth 100000 in
theorem mul_carry (x b k : Nat) : (x * dg b k + carryM x b k) / 65536 = carryM x b (k + 1) := by
  unfold carryM
  rw [mod_step b k, Nat.pow_succ, ← Nat.div_div_eq_div_mul]
  congr 1
  rw [Nat.mul_add, ← Nat.mul_assoc, Nat.mul_comm x (65536 ^ k), Nat.mul_assoc, Nat.add_mul_div_left _ _ (pw_pos k)]
  omega
set_option maxRecDepth 100000 in
theorem mul_dg (x b k : Nat) : (x * dg b k + carryM x b k) % 65536 = dg (x * b) k := by
  have hb : b = b % 65536 ^ k + 65536 ^ k * (b / 65536 ^ k) := by have := Nat.mod_add_div b (65536 ^ k); omega
  have h : x * b / 65536 ^ k = x * (b / 65536 ^ k) + carryM x b k := by
    unfold carryM
    conv => lhs; rw [hb, Nat.mul_add, ← Nat.mul_assoc, Nat.mul_comm x (65536 ^ k), Nat.mul_assoc, Nat.add_mul_div_left _ _ (pw_pos k)]
    omega
  show _ = x * b / 65536 ^ k % 65536
  rw [h]
  unfold dg
  rw [Nat.add_mod, Nat.mul_mod, Nat.mod_mod, ← Nat.mul_mod, ← Nat.add_mod]
/-! ### shifted numbers, sums of rows -/
set_option maxRecDepth 100000 in
theorem dg_shift (v i j : Nat) : dg (v * 65536 ^ i) j = if j < i then 0 else dg v (j - i) := by
  unfold dg
  split
  · rename_i h
    have : v * 65536 ^ i = 65536 ^ j * (v * 65536 ^ (i - j)) := by
      rw [Nat.mul_comm (65536 ^ j), Nat.mul_assoc, ← Nat.pow_add, show i - j + j = i by omega]
    rw [this, Nat.mul_div_cancel_left _ (pw_pos j)]
    obtain ⟨m, hm⟩ : ∃ m, i - j = m + 1 := ⟨i - j - 1, by omega⟩
    rw [hm, Nat.pow_succ, ← Nat.mul_assoc]
    exact Nat.mul_mod_left _ _
  · rename_i h
    have : 65536 ^ j = 65536 ^ i * 65536 ^ (j - i) := by rw [← Nat.pow_add, show i + (j - i) = j by omega]
    rw [this, ← Nat.div_div_eq_div_mul, Nat.mul_div_cancel _ (pw_pos i)]
set_option maxRecDepth 100000 in
theorem dg_small (v i : Nat) (h : v < 65536 ^ i) : dg v i = 0 := by unfold dg; rw [Nat.div_eq_of_lt h]
set_option maxRecDepth 100000 in
theorem dg_over (v i k : Nat) (h : v < 65536 ^ k) (hk : k ≤ i) : dg v i = 0 :=
  dg_small v i (Nat.lt_of_lt_of_le h (Nat.pow_le_pow_right (by decide) hk))
set_option maxRecDepth 100000 in
theorem dg_zero (i : Nat) : dg 0 i = 0 := by simp [dg]
set_option maxRecDepth 100000 in
theorem mod_succ_mul (a b k : Nat) : (a % 65536 ^ k) * b + dg a k * b * 65536 ^ k = (a % 65536 ^ (k + 1)) * b := by
  rw [mod_step a k, Nat.add_mul]
  congr 1
  rw [Nat.mul_comm (65536 ^ k), Nat.mul_assoc, Nat.mul_assoc, Nat.mul_comm b]
set_option maxRecDepth 100000 in
/-- from the highest digit down: the word of the digits from k on -/
theorem word_down (v k : Nat) : (v / 65536 ^ (k + 1)) * 65536 + dg v k = v / 65536 ^ k := (div_step v k).symm
end Go.Proofs.Ytmfagdbocidfjaa

/- The contracts of package backstayref01's wide numbers: digits to the base 65536 with a sign. Conditions: the struct handed in is the one of a sign and a number below 65536 to the 9th. -/
namespace Go.Proofs.Ytmfagdbocidfjaa
open Go.RowKit
/-- the struct of a sign and nine digits -/
def wideA (m : Bool) (d : Nat → Nat) : Array Value :=
  #[.bool m, .int .u64 (d 0 : Nat), .int .u64 (d 1 : Nat), .int .u64 (d 2 : Nat), .int .u64 (d 3 : Nat), .int .u64 (d 4 : Nat), .int .u64 (d 5 : Nat), .int .u64 (d 6 : Nat), .int .u64 (d 7 : Nat), .int .u64 (d 8 : Nat)]
set_option maxRecDepth 100000 in
theorem nine (k : Nat) (h : k < 9) : k = 0 ∨ k = 1 ∨ k = 2 ∨ k = 3 ∨ k = 4 ∨ k = 5 ∨ k = 6 ∨ k = 7 ∨ k = 8 := by omega
set_option maxRecDepth 100000 in
theorem wideA_set (m : Bool) (d : Nat → Nat) (k x : Nat) (h : k < 9) : (wideA m d).setIfInBounds (1 + k) (.int .u64 (x : Nat)) = wideA m (fun i => if i = k then x else d i) := by
  rcases nine k h with rfl | rfl | rfl | rfl | rfl | rfl | rfl | rfl | rfl <;> rfl
set_option maxRecDepth 100000 in
theorem wideA_set0 (m n : Bool) (d : Nat → Nat) : (wideA m d).setIfInBounds 0 (.bool n) = wideA n d := rfl
set_option maxRecDepth 100000 in
theorem wideA_get (m : Bool) (d : Nat → Nat) (k : Nat) (h : k < 9) : (wideA m d)[1 + k]? = some (.int .u64 (d k : Nat)) := by
  rcases nine k h with rfl | rfl | rfl | rfl | rfl | rfl | rfl | rfl | rfl <;> rfl
set_option maxRecDepth 100000 in
theorem wideA_get0 (m : Bool) (d : Nat → Nat) : (wideA m d)[0]? = some (.bool m) := rfl
set_option maxRecDepth 100000 in
theorem wideA_size (m : Bool) (d : Nat → Nat) : (wideA m d).size = 10 := rfl
set_option maxRecDepth 100000 in
theorem wideA_congr (m : Bool) {d d' : Nat → Nat} (h : ∀ i, i < 9 → d i = d' i) : wideA m d = wideA m d' := by
  unfold wideA
  rw [h 0 (by decide), h 1 (by decide), h 2 (by decide), h 3 (by decide), h 4 (by decide), h 5 (by decide), h 6 (by decide), h 7 (by decide), h 8 (by decide)]
set_option maxRecDepth 100000 in
theorem wideA_sz (m n : Bool) (d e : Nat → Nat) : (wideA m d).size = (wideA n e).size := rfl
set_option maxRecDepth 100000 in
theorem wideA_one (m : Bool) (d : Nat → Nat) : (wideA m d).all (·.oneCell') = true := by simp [wideA, Value.oneCell']
def WidePost (W : World) (m : Bool) (v : Nat) (e : Ending) (W' : World) : Prop := e = .returned (.agg (wideA m (dg v))) ∧ Below W.heap.size W W'
attribute [local irreducible] wideA dg

set_option maxRecDepth 100000 in
theorem ofq (N k : Nat) : ((N / 65536 ^ k : Nat) : Int) / 65536 = ((N / 65536 ^ (k + 1) : Nat) : Int) := by
  rw [Nat.pow_succ, ← Nat.div_div_eq_div_mul]; simp
set_option maxRecDepth 100000 in
theorem ofr (N k : Nat) : ((N / 65536 ^ k : Nat) : Int) % 65536 = ((dg N k : Nat) : Int) := by
  unfold dg; simp
set_option maxRecDepth 100000 in
theorem of_next (N k : Nat) (i : Nat) (_ : i < 9) : (if i = k then dg N k else if i < k then dg N i else 0) = if i < k + 1 then dg N i else 0 := by
  by_cases h : i = k
  · subst h; simp
  · rw [if_neg h]
    by_cases h2 : i < k
    · rw [if_pos h2, if_pos (by omega)]
    · rw [if_neg h2, if_neg (by omega)]
set_option maxRecDepth 100000 in
theorem of_last (N : Nat) (h : N < 65536 ^ 4) (i : Nat) (_ : i < 9) : (if i < 4 then dg N i else 0) = dg N i := by
  split
  · rfl
  · exact (dg_over N i 4 h (by omega)).symm
set_option maxRecDepth 100000 in
theorem upd_next (f g : Nat → Nat) (k : Nat) (i : Nat) : (if i = k then g k else if i < k then g i else f i) = if i < k + 1 then g i else f i := by
  by_cases h : i = k
  · subst h; simp
  · rw [if_neg h]
    by_cases h2 : i < k
    · rw [if_pos h2, if_pos (by omega)]
    · rw [if_neg h2, if_neg (by omega)]
set_option maxRecDepth 100000 in
theorem wideA_full (m : Bool) (f g : Nat → Nat) : wideA m (fun i => if i < 9 then f i else g i) = wideA m f := wideA_congr m (fun _ hi => if_pos hi)
set_option maxRecDepth 100000 in
theorem int_mod (n : Nat) : (n : Int) % 65536 = ((n % 65536 : Nat) : Int) := by simp
set_option maxRecDepth 100000 in
theorem int_div (n : Nat) : (n : Int) / 65536 = ((n / 65536 : Nat) : Int) := by simp

def LessPost (W : World) (x : Bool) (e : Ending) (W' : World) : Prop := e = .returned (.bool x) ∧ Below W.heap.size W W'
end Go.Proofs.Ytmfagdbocidfjaa

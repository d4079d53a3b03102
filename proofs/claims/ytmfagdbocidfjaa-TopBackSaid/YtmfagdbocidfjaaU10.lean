import Derived.Test.YtmfagdbocidfjaaU06
import Derived.Test.YtmfagdbocidfjaaU09
/- Wide and Mul of package word. Conditions: the arguments are numbers of 64 bits. -/
namespace Go.Proofs.Ytmfagdbocidfjaa
open Go.RowKit
set_option maxRecDepth 100000 in
theorem ret_int2 {k l : IntKind} {a b a' b' : Int} (h : a = a') (h2 : b = b') : Ending.returned (.tuple #[.int k a, .int l b]) = .returned (.tuple #[.int k a', .int l b']) := by rw [h, h2]
set_option maxRecDepth 100000 in
theorem mask32 (n : Int) (h1 : 0 ≤ n) (h2 : n < 18446744073709551616) : bits .and .u64 n 4294967295 = n % 4294967296 := by
  obtain ⟨m, rfl⟩ := Int.eq_ofNat_of_zero_le h1
  have h := u64_and_nat m 4294967295 (by omega) (by decide)
  have e : m &&& 4294967295 = m % 4294967296 := Nat.and_two_pow_sub_one_eq_mod m 32
  rw [e] at h
  simpa using h
set_option maxRecDepth 100000 in
theorem not64 (n : Int) (h1 : 0 ≤ n) (h2 : n < 18446744073709551616) : bits .xor .u64 IntKind.u64.max n = 18446744073709551615 - n := by
  obtain ⟨m, rfl⟩ := Int.eq_ofNat_of_zero_le h1
  have hm : IntKind.u64.max = ((18446744073709551615 : Nat) : Int) := by decide
  rw [hm]
  show IntKind.u64.wrap ((BitVec.ofInt 64 ((18446744073709551615 : Nat) : Int) ^^^ BitVec.ofInt 64 (m : Int)).toNat : Int) = _
  have ha : BitVec.ofInt 64 ((18446744073709551615 : Nat) : Int) = BitVec.allOnes 64 := by decide
  rw [ha, BitVec.allOnes_xor, BitVec.toNat_not, BitVec.ofInt_natCast, BitVec.toNat_ofNat, IntKind.wrap_u64]
  omega
set_option maxRecDepth 100000 in
theorem mul_le_of (p q P Q : Int) (hp : 0 ≤ p) (hq : 0 ≤ q) (h1 : p ≤ P) (h2 : q ≤ Q) : 0 ≤ p * q ∧ p * q ≤ P * Q :=
  ⟨Int.mul_nonneg hp hq, Int.mul_le_mul h1 h2 hq (Int.le_trans hp h1)⟩
set_option maxRecDepth 100000 in
theorem wide_core (p00 p10 p01 p11 : Int) (a0 : 0 ≤ p00) (a1 : p00 ≤ 18446744065119617025) (b0 : 0 ≤ p10) (b1 : p10 ≤ 9223372034707292160) (c0 : 0 ≤ p01) (c1 : p01 ≤ 9223372034707292160) (d0 : 0 ≤ p11) (d1 : p11 ≤ 4611686018427387904)
    (hm : ∀ n : Int, 0 ≤ n → n < 18446744073709551616 → bits .and .u64 n 4294967295 = n % 4294967296) :
    IntKind.u64.wrap (IntKind.u64.wrap (IntKind.u64.wrap p11 + IntKind.u64.wrap (IntKind.u64.wrap p10 + IntKind.u64.wrap p00 / 4294967296) / 4294967296) + IntKind.u64.wrap (bits .and .u64 (IntKind.u64.wrap (IntKind.u64.wrap p10 + IntKind.u64.wrap p00 / 4294967296)) 4294967295 + IntKind.u64.wrap p01) / 4294967296) = (p11 * 18446744073709551616 + (p10 + p01) * 4294967296 + p00) / 18446744073709551616 := by
  have e00 : IntKind.u64.wrap p00 = p00 := by rw [IntKind.wrap_u64]; omega
  have e10 : IntKind.u64.wrap p10 = p10 := by rw [IntKind.wrap_u64]; omega
  have e01 : IntKind.u64.wrap p01 = p01 := by rw [IntKind.wrap_u64]; omega
  have e11 : IntKind.u64.wrap p11 = p11 := by rw [IntKind.wrap_u64]; omega
  have em : IntKind.u64.wrap (p10 + p00 / 4294967296) = p10 + p00 / 4294967296 := by rw [IntKind.wrap_u64]; omega
  rw [e00, e10, e01, e11, em, hm _ (by omega) (by omega)]
  simp only [IntKind.wrap_u64]
  omega
set_option maxRecDepth 100000 in
theorem wide_hi (x y : Int) (x1 : 0 ≤ x) (x2 : x ≤ 9223372036854775808) (y1 : 0 ≤ y) (y2 : y ≤ 9223372036854775808) :
    IntKind.u64.wrap
                (IntKind.u64.wrap
                    (IntKind.u64.wrap (x / 4294967296 * (y / 4294967296)) +
                      IntKind.u64.wrap
                          (IntKind.u64.wrap (x / 4294967296 * bits BinOp.and IntKind.u64 y 4294967295) +
                            IntKind.u64.wrap
                                (bits BinOp.and IntKind.u64 x 4294967295 * bits BinOp.and IntKind.u64 y 4294967295) /
                              4294967296) /
                        4294967296) +
                  IntKind.u64.wrap
                      (bits BinOp.and IntKind.u64
                          (IntKind.u64.wrap
                            (IntKind.u64.wrap (x / 4294967296 * bits BinOp.and IntKind.u64 y 4294967295) +
                              IntKind.u64.wrap
                                  (bits BinOp.and IntKind.u64 x 4294967295 * bits BinOp.and IntKind.u64 y 4294967295) /
                                4294967296))
                          4294967295 +
                        IntKind.u64.wrap (bits BinOp.and IntKind.u64 x 4294967295 * (y / 4294967296))) /
                    4294967296) = x * y / 18446744073709551616 := by
  rw [mask32 x x1 (by omega), mask32 y y1 (by omega)]
  have p00 := mul_le_of (x % 4294967296) (y % 4294967296) 4294967295 4294967295 (by omega) (by omega) (by omega) (by omega)
  have p10 := mul_le_of (x / 4294967296) (y % 4294967296) 2147483648 4294967295 (by omega) (by omega) (by omega) (by omega)
  have p01 := mul_le_of (x % 4294967296) (y / 4294967296) 4294967295 2147483648 (by omega) (by omega) (by omega) (by omega)
  have p11 := mul_le_of (x / 4294967296) (y / 4294967296) 2147483648 2147483648 (by omega) (by omega) (by omega) (by omega)
  rw [wide_core _ _ _ _ p00.1 p00.2 p10.1 p10.2 p01.1 p01.2 p11.1 p11.2 mask32]
  congr 1
  have ex : x = x / 4294967296 * 4294967296 + x % 4294967296 := by omega
  have ey : y = y / 4294967296 * 4294967296 + y % 4294967296 := by omega
  generalize x / 4294967296 = u1 at *
  generalize x % 4294967296 = u0 at *
  generalize y / 4294967296 = v1 at *
  generalize y % 4294967296 = v0 at *
  rw [ex, ey, Int.mul_add, Int.add_mul (u1 * 4294967296) u0 (v1 * 4294967296), Int.add_mul (u1 * 4294967296) u0 v0]
  have e1 : u1 * 4294967296 * (v1 * 4294967296) = u1 * v1 * 18446744073709551616 := by
    rw [Int.mul_assoc, ← Int.mul_assoc 4294967296, Int.mul_comm 4294967296 v1, Int.mul_assoc, ← Int.mul_assoc]; rfl
  have e2 : u1 * 4294967296 * v0 = u1 * v0 * 4294967296 := by rw [Int.mul_assoc, Int.mul_comm 4294967296 v0, ← Int.mul_assoc]
  have e3 : u0 * (v1 * 4294967296) = u0 * v1 * 4294967296 := by rw [← Int.mul_assoc]
  rw [e1, e2, e3]
  omega
set_option maxRecDepth 100000 in
theorem low_eq (a b : Int) : IntKind.u64.wrap (IntKind.u64.wrap a * IntKind.u64.wrap b) = loZ (a * b) := by
  unfold loZ
  simp only [IntKind.wrap_u64]
  rw [← Int.mul_emod]
set_option maxRecDepth 100000 in
/-- the sizes' product, with its sign -/
theorem prod_sign (a b x y : Int) (hx : x = a.natAbs) (hy : y = b.natAbs) : ((a < 0) ↔ (b < 0)) ∧ a * b = x * y ∨ ¬ ((a < 0) ↔ (b < 0)) ∧ a * b = -(x * y) := by
  have ha : a = x ∨ a = -x := by omega
  have hb : b = y ∨ b = -y := by omega
  by_cases h1 : a < 0 <;> by_cases h2 : b < 0
  · have ea : a = -x := by omega
    have eb : b = -y := by omega
    exact .inl ⟨by simp [h1, h2], by rw [ea, eb, Int.neg_mul_neg]⟩
  · have ea : a = -x := by omega
    have eb : b = y := by omega
    exact .inr ⟨by simp [h1, h2], by rw [ea, eb, Int.neg_mul]⟩
  · have ea : a = x := by omega
    have eb : b = -y := by omega
    exact .inr ⟨by simp [h1, h2], by rw [ea, eb, Int.mul_neg]⟩
  · have ea : a = x := by omega
    have eb : b = y := by omega
    exact .inl ⟨by simp [h1, h2], by rw [ea, eb]⟩
set_option maxRecDepth 100000 in
theorem hi_same (N : Int) : wrap64 (N / 18446744073709551616) = hiZ N := rfl
set_option maxRecDepth 100000 in
theorem hi_neg0 (N : Int) (h0 : 0 ≤ N) (h1 : N ≤ 85070591730234615865843651857942052864) (hl : loZ (-N) = 0) : wrap64 (IntKind.u64.wrap (bits .xor .u64 IntKind.u64.max (N / 18446744073709551616) + 1)) = hiZ (-N) := by
  rw [not64 _ (by omega) (by omega), IntKind.wrap_u64]
  unfold loZ at hl
  unfold hiZ wrap64
  omega
set_option maxRecDepth 100000 in
theorem hi_neg (N : Int) (h0 : 0 ≤ N) (h1 : N ≤ 85070591730234615865843651857942052864) (hl : loZ (-N) ≠ 0) : wrap64 (bits .xor .u64 IntKind.u64.max (N / 18446744073709551616)) = hiZ (-N) := by
  rw [not64 _ (by omega) (by omega)]
  unfold loZ at hl
  unfold hiZ wrap64
  omega
attribute [local irreducible] satZ hiZ loZ
set_option maxRecDepth 100000 in
set_option maxHeartbeats 1000000 in
theorem w_wide (a b : Int) (w : World) (ha : I64 a) (hb : I64 b) :
    Calls Try.prog 95 #[.int .i64 a, .int .i64 b] w fun e w' => e = .returned (.tuple #[.int .i64 (hiZ (a * b)), .int .u64 (loZ (a * b))]) ∧ w = w' := by
  obtain ⟨a1, a2⟩ := ha
  obtain ⟨b1, b2⟩ := hb
  obtain ⟨x, hx⟩ : ∃ x : Int, x = a.natAbs := ⟨_, rfl⟩
  obtain ⟨y, hy⟩ : ∃ y : Int, y = b.natAbs := ⟨_, rfl⟩
  have hx1 : 0 ≤ x ∧ x ≤ 9223372036854775808 := by omega
  have hy1 : 0 ≤ y ∧ y ≤ 9223372036854775808 := by omega
  have hxh := hide hx
  have hyh := hide hy
  clear hx hy
  obtain ⟨x1, x2⟩ := hx1
  obtain ⟨y1, y2⟩ := hy1
  go_enter Try.func95, Try.ntmps95
  go_wp2_with fail
  refine (w_abs64 a _ ⟨a1, a2⟩).mono ?_
  rintro e w' ⟨rfl, rfl⟩
  rw [← hxh.out]
  go_wp2_with fail
  refine (w_abs64 b _ ⟨b1, b2⟩).mono ?_
  rintro e w' ⟨rfl, rfl⟩
  rw [← hyh.out]
  go_wp2_with fail
  · have hs := ‹(!decide (a < 0) == decide (b < 0)) = true›
    have hl := ‹(IntKind.u64.wrap (IntKind.u64.wrap a * IntKind.u64.wrap b) == 0) = true›
    rw [low_eq, beq_iff_eq] at hl
    have hp := (prod_sign a b x y hxh.out hyh.out).resolve_left (fun e => by have := e.1; by_cases h1 : a < 0 <;> by_cases h2 : b < 0 <;> simp [h1, h2] at hs this)
    have hN := mul_le_of x y 9223372036854775808 9223372036854775808 x1 y1 x2 y2
    go_ret2
    refine ⟨ret_int2 ?_ (low_eq a b), rfl⟩
    rw [wide_hi x y x1 x2 y1 y2]
    rw [hp.2] at hl ⊢
    exact hi_neg0 _ hN.1 hN.2 hl
  · have hs := ‹(!decide (a < 0) == decide (b < 0)) = true›
    have hl := ‹(IntKind.u64.wrap (IntKind.u64.wrap a * IntKind.u64.wrap b) == 0) = false›
    rw [low_eq, beq_eq_false_iff_ne] at hl
    have hp := (prod_sign a b x y hxh.out hyh.out).resolve_left (fun e => by have := e.1; by_cases h1 : a < 0 <;> by_cases h2 : b < 0 <;> simp [h1, h2] at hs this)
    have hN := mul_le_of x y 9223372036854775808 9223372036854775808 x1 y1 x2 y2
    go_ret2
    refine ⟨ret_int2 ?_ (low_eq a b), rfl⟩
    rw [wide_hi x y x1 x2 y1 y2]
    rw [hp.2] at hl ⊢
    exact hi_neg _ hN.1 hN.2 hl
  · have hs := ‹(!decide (a < 0) == decide (b < 0)) = false›
    have hp := (prod_sign a b x y hxh.out hyh.out).resolve_right (fun e => by have := e.1; by_cases h1 : a < 0 <;> by_cases h2 : b < 0 <;> simp [h1, h2] at hs this)
    go_ret2
    refine ⟨ret_int2 ?_ (low_eq a b), rfl⟩
    rw [wide_hi x y x1 x2 y1 y2, hp.2]
    exact hi_same _

set_option maxRecDepth 100000 in
theorem mul_zero_of (a b : Int) (h : a = 0 ∨ b = 0) : (0 : Int) = satZ (a * b) := by
  rcases h with rfl | rfl
  · rw [Int.zero_mul, satZ_in _ (by decide) (by decide)]
  · rw [Int.mul_zero, satZ_in _ (by decide) (by decide)]
set_option maxRecDepth 100000 in
theorem prod_bd (a b : Int) (ha : I64 a) (hb : I64 b) : -85070591730234615865843651857942052864 ≤ a * b ∧ a * b ≤ 85070591730234615865843651857942052864 := by
  obtain ⟨a1, a2⟩ := ha
  obtain ⟨b1, b2⟩ := hb
  have hN := mul_le_of a.natAbs b.natAbs 9223372036854775808 9223372036854775808 (by omega) (by omega) (by omega) (by omega)
  rcases prod_sign a b _ _ rfl rfl with ⟨_, h⟩ | ⟨_, h⟩ <;> rw [h] <;> omega
set_option maxRecDepth 100000 in
theorem wide_back (z : Int) (h1 : -85070591730234615865843651857942052864 ≤ z) (h2 : z ≤ 85070591730234615865843651857942052864) : z = hiZ z * 18446744073709551616 + loZ z ∧ 0 ≤ loZ z ∧ loZ z < 18446744073709551616 := by
  unfold hiZ loZ wrap64
  omega
end Go.Proofs.Ytmfagdbocidfjaa

/- The contract of backstayref01's Times. Conditions: the factors are below 65536 to the 4th. -/
namespace Go.Proofs.Ytmfagdbocidfjaa
open Go.RowKit
/-- the digits of a row: those of x times b, k places up, the first j of them -/
def rowD (x b k j : Nat) (i : Nat) : Nat := if k ≤ i ∧ i < k + j then dg (x * b) (i - k) else 0
set_option maxRecDepth 100000 in
theorem rowD_zero (x b k : Nat) (i : Nat) : rowD x b k 0 i = 0 := by unfold rowD; rw [if_neg (by omega)]
set_option maxRecDepth 100000 in
theorem rowD_next (x b k j : Nat) (i : Nat) : (if i = k + j then dg (x * b) j else rowD x b k j i) = rowD x b k (j + 1) i := by
  unfold rowD
  by_cases h : i = k + j
  · subst h; rw [if_pos rfl, if_pos (by omega)]; congr 1; omega
  · rw [if_neg h]
    by_cases h2 : k ≤ i ∧ i < k + j
    · rw [if_pos h2, if_pos (by omega)]
    · rw [if_neg h2, if_neg (by omega)]
set_option maxRecDepth 100000 in
theorem rowD_all (x b k : Nat) (hx : x < 65536) (hb : b < 65536 ^ 4) (i : Nat) : rowD x b k 5 i = dg (x * b * 65536 ^ k) i := by
  unfold rowD
  rw [dg_shift]
  by_cases h : i < k
  · rw [if_pos h, if_neg (by omega)]
  · rw [if_neg h]
    by_cases h2 : i < k + 5
    · rw [if_pos (by omega)]
    · rw [if_neg (by omega)]
      have hlt : x * b < 65536 ^ 5 := by
        calc x * b ≤ 65535 * b := Nat.mul_le_mul_right _ (by omega)
          _ < 65536 ^ 5 := by omega
      exact (dg_over _ _ 5 hlt (by omega)).symm
set_option maxRecDepth 100000 in
theorem carry_last (x b : Nat) (hx : x < 65536) (hb : b < 65536 ^ 4) : carryM x b 4 = dg (x * b) 4 := by
  unfold carryM dg
  rw [Nat.mod_eq_of_lt hb]
  rw [Nat.mod_eq_of_lt]
  apply Nat.div_lt_of_lt_mul
  calc x * b ≤ 65535 * b := Nat.mul_le_mul_right _ (by omega)
    _ < 65536 ^ 4 * 65536 := by omega
set_option maxRecDepth 100000 in
theorem nat_mul_int (x y c : Nat) : (x : Int) * y + c = ((x * y + c : Nat) : Int) := by simp
set_option maxRecDepth 100000 in
theorem mul_bd (x y : Nat) (hx : x < 65536) (hy : y < 65536) : x * y ≤ 4294836225 := Nat.mul_le_mul (show x ≤ 65535 by omega) (show y ≤ 65535 by omega)
attribute [local irreducible] wideA dg rowD carryM
end Go.Proofs.Ytmfagdbocidfjaa

/- The document's product of two numbers, held. Conditions: integers of 64 bits. -/
namespace Go.Proofs.Ytmfagdbocidfjaa
open Go.RowKit
set_option maxRecDepth 100000 in
theorem zv_prod (a b : Int) : zv (decide (a < 0) != decide (b < 0)) (a.natAbs * b.natAbs) = a * b := by
  have hm : ((a.natAbs * b.natAbs : Nat) : Int) = (a.natAbs : Int) * b.natAbs := by simp
  unfold zv
  rw [hm]
  rcases prod_sign a b _ _ rfl rfl with ⟨h, e⟩ | ⟨h, e⟩ <;> rw [e] <;> by_cases h1 : a < 0 <;> by_cases h2 : b < 0 <;> simp [h1, h2] at h ⊢
set_option maxRecDepth 100000 in
theorem abs_lt4 (n : Int) (hn : I64 n) : n.natAbs < 65536 ^ 4 := by
  obtain ⟨h1, h2⟩ := hn
  have : (65536 : Nat) ^ 4 = 18446744073709551616 := by decide
  omega
set_option maxRecDepth 100000 in
theorem prod_lt (a b : Nat) (ha : a < 65536 ^ 4) (hb : b < 65536 ^ 4) : a * b < 65536 ^ 8 := by
  have : (65536 : Nat) ^ 8 = 65536 ^ 4 * 65536 ^ 4 := by rw [← Nat.pow_add]
  rw [this]
  exact Nat.mul_lt_mul'' ha hb
end Go.Proofs.Ytmfagdbocidfjaa

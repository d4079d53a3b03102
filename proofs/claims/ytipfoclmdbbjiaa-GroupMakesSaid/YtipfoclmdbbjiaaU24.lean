import Derived.Test.YtipfoclmdbbjiaaU23
import Derived.Test.YtipfoclmdbbjiaaU21
/- The contracts of backstayref01's Plus at every sign, Held, Abs, Add, Sub. Conditions: the numbers are below 65536 to the 9th. -/
namespace Go.Proofs.Ytipfoclmdbbjiaa
open Go.RowKit
/-- the number of a sign and a size -/
def zv (m : Bool) (v : Nat) : Int := if m = true then -(v : Int) else v
set_option maxRecDepth 100000 in
theorem zv_of (n : Int) : zv (decide (n < 0)) n.natAbs = n := by unfold zv; by_cases h : n < 0 <;> simp [h] <;> omega
set_option maxRecDepth 100000 in
theorem zv_turn (m : Bool) (v : Nat) : zv (!m) v = -zv m v := by unfold zv; cases m <;> simp
def PlusPost (W : World) (z : Int) (b : Nat) (e : Ending) (W' : World) : Prop := ∃ m v, e = .returned (.agg (wideA m (dg v))) ∧ zv m v = z ∧ v ≤ b ∧ Below W.heap.size W W'
set_option maxRecDepth 100000 in
theorem PlusPost.of {W : World} {m : Bool} {v : Nat} {z : Int} {b : Nat} {e : Ending} {W' : World} (h : WidePost W m v e W') (hz : zv m v = z) (hb : v ≤ b) : PlusPost W z b e W' := ⟨m, v, h.1, hz, hb, h.2⟩
set_option maxRecDepth 100000 in
theorem dg_mod (v k i : Nat) (h : i < k) : dg (v % 65536 ^ k) i = dg v i := by
  unfold dg
  have e : 65536 ^ k = 65536 ^ i * 65536 ^ (k - i) := by rw [← Nat.pow_add]; congr 1; omega
  rw [e, Nat.mod_mul_right_div_self]
  obtain ⟨j, hj⟩ : ∃ j, k - i = j + 1 := ⟨k - i - 1, by omega⟩
  rw [hj, Nat.pow_succ, Nat.mul_comm, Nat.mod_mul_right_mod]
set_option maxRecDepth 100000 in
theorem big_dg (v : Nat) (h : 65536 ^ 4 ≤ v) (h9 : v < 65536 ^ 9) : 0 < dg v 4 + dg v 5 + dg v 6 + dg v 7 + dg v 8 := by
  rcases Nat.eq_zero_or_pos (dg v 4 + dg v 5 + dg v 6 + dg v 7 + dg v 8) with h0 | h0
  · exfalso
    have e4 := div_step v 4
    have e5 := div_step v 5
    have e6 := div_step v 6
    have e7 := div_step v 7
    have e8 := div_step v 8
    have e9 : v / 65536 ^ (8 + 1) = 0 := Nat.div_eq_of_lt h9
    have hp : 1 ≤ v / 65536 ^ 4 := (Nat.one_le_div_iff (pw_pos 4)).2 h
    simp only [Nat.reduceAdd] at *
    omega
  · exact h0
attribute [local irreducible] wideA dg satZ
set_option maxRecDepth 100000 in
theorem down_step (x j : Nat) : ((x / 65536 ^ (j + 1) : Nat) : Int) * 65536 + ((dg x j : Nat) : Int) = ((x / 65536 ^ j : Nat) : Int) := by
  rw [← word_down x j]; simp
set_option maxRecDepth 100000 in
theorem down_lt (x j : Nat) (hj : j ≤ 3) (hx : x < 65536 ^ 4) : x / 65536 ^ (j + 1) < 281474976710656 := by
  apply Nat.div_lt_of_lt_mul
  have h1 : 65536 ^ 1 ≤ 65536 ^ (j + 1) := Nat.pow_le_pow_right (by decide) (by omega)
  calc x < 65536 ^ 4 := hx
    _ = 65536 ^ 1 * 281474976710656 := by decide
    _ ≤ 65536 ^ (j + 1) * 281474976710656 := Nat.mul_le_mul_right _ h1

set_option maxRecDepth 100000 in
/-- What the great digits are: five numbers, not all 0. -/
theorem some_big (v : Nat) (h : 65536 ^ 4 ≤ v) (h9 : v < 65536 ^ 9) : dg v 4 ≠ 0 ∨ (dg v 4 = 0 ∧ dg v 5 ≠ 0) ∨ (dg v 4 = 0 ∧ dg v 5 = 0 ∧ dg v 6 ≠ 0) ∨ (dg v 4 = 0 ∧ dg v 5 = 0 ∧ dg v 6 = 0 ∧ dg v 7 ≠ 0) ∨ (dg v 4 = 0 ∧ dg v 5 = 0 ∧ dg v 6 = 0 ∧ dg v 7 = 0 ∧ dg v 8 ≠ 0) := by
  have := big_dg v h h9
  omega
set_option maxRecDepth 100000 in
theorem abs_lt (n : Int) (hn : I64 n) : n.natAbs < 65536 ^ 8 := by
  obtain ⟨h1, h2⟩ := hn
  have : (65536 : Nat) ^ 8 = 340282366920938463463374607431768211456 := by decide
  omega
set_option maxRecDepth 100000 in
theorem p89 : (65536 : Nat) ^ 8 + 65536 ^ 8 < 65536 ^ 9 := by decide
end Go.Proofs.Ytipfoclmdbbjiaa

/- The contract of backstayref01's Parts: the upper and the lower half of a number of 128 bits. Conditions: the number is below 65536 to the 8th. -/
namespace Go.Proofs.Ytipfoclmdbbjiaa
open Go.RowKit
/-- the halves of a number: 2^64 times the first one, and the second one -/
def hiZ (z : Int) : Int := wrap64 (z / 18446744073709551616)
def loZ (z : Int) : Int := z % 18446744073709551616
set_option maxRecDepth 100000 in
theorem dg_div (v k i : Nat) : dg (v / 65536 ^ k) i = dg v (i + k) := by
  unfold dg
  rw [Nat.div_div_eq_div_mul, ← Nat.pow_add, Nat.add_comm k i]
set_option maxRecDepth 100000 in
theorem half_lt (v : Nat) (hv : v < 65536 ^ 8) : v / 65536 ^ 4 < 65536 ^ 4 := by
  apply Nat.div_lt_of_lt_mul
  rw [← Nat.pow_add]; exact hv
set_option maxRecDepth 100000 in
theorem parts_plus (v : Nat) : wrap64 ((v / 65536 ^ 4 : Nat) : Int) = hiZ (zv false v) ∧ ((v % 65536 ^ 4 : Nat) : Int) = loZ (zv false v) := by
  have h4 : (65536 : Nat) ^ 4 = 18446744073709551616 := by decide
  unfold hiZ loZ zv
  rw [h4]
  simp
set_option maxRecDepth 100000 in
theorem parts_minus0 (v : Nat) (h : v % 65536 ^ 4 = 0) : wrap64 (-(wrap64 ((v / 65536 ^ 4 : Nat) : Int))) = hiZ (zv true v) ∧ (0 : Int) = loZ (zv true v) := by
  have h4 : (65536 : Nat) ^ 4 = 18446744073709551616 := by decide
  rw [h4] at *
  unfold hiZ loZ zv wrap64
  simp only [if_true]
  omega
set_option maxRecDepth 100000 in
theorem parts_minus (v : Nat) (h : v % 65536 ^ 4 ≠ 0) : wrap64 (wrap64 (-(wrap64 ((v / 65536 ^ 4 : Nat) : Int))) - 1) = hiZ (zv true v) ∧ IntKind.u64.wrap (-((v % 65536 ^ 4 : Nat) : Int)) = loZ (zv true v) := by
  have h4 : (65536 : Nat) ^ 4 = 18446744073709551616 := by decide
  rw [h4] at *
  rw [IntKind.wrap_u64]
  unfold hiZ loZ zv wrap64
  simp only [if_true]
  omega
attribute [local irreducible] wideA dg hiZ loZ
def PartsPost (W : World) (z : Int) (e : Ending) (W' : World) : Prop := e = .returned (.tuple #[.int .i64 (hiZ z), .int .u64 (loZ z)]) ∧ Below W.heap.size W W'
end Go.Proofs.Ytipfoclmdbbjiaa

/- Wide and Mul of package word. Conditions: the arguments are numbers of 64 bits. -/
namespace Go.Proofs.Ytipfoclmdbbjiaa
open Go.RowKit
set_option maxRecDepth 100000 in
theorem ret_int2 {k l : IntKind} {a b a' b' : Int} (h : a = a') (h2 : b = b') : Ending.returned (.tuple #[.int k a, .int l b]) = .returned (.tuple #[.int k a', .int l b']) := by rw [h, h2]
set_option maxRecDepth 100000 in
theorem mask32 (n : Int) (h1 : 0 ≤ n) (h2 : n < 18446744073709551616) : bits .and .u64 n 4294967295 = n % 4294967296 := by
  obtain ⟨m, rfl⟩ := Int.eq_ofNat_of_zero_le h1
  have h := u64_and_nat m 4294967295 (by omega) (by decide)
  have e : m &&& 4294967295 = m % 4294967296 := Nat.and_two_pow_sub_one_eq_mod m 32
  rw [e] at h
  simpa using h
set_option maxRecDepth 100000 in
theorem not64 (n : Int) (h1 : 0 ≤ n) (h2 : n < 18446744073709551616) : bits .xor .u64 IntKind.u64.max n = 18446744073709551615 - n := by
  obtain ⟨m, rfl⟩ := Int.eq_ofNat_of_zero_le h1
  have hm : IntKind.u64.max = ((18446744073709551615 : Nat) : Int) := by decide
  rw [hm]
  show IntKind.u64.wrap ((BitVec.ofInt 64 ((18446744073709551615 : Nat) : Int) ^^^ BitVec.ofInt 64 (m : Int)).toNat : Int) = _
  have ha : BitVec.ofInt 64 ((18446744073709551615 : Nat) : Int) = BitVec.allOnes 64 := by decide
  rw [ha, BitVec.allOnes_xor, BitVec.toNat_not, BitVec.ofInt_natCast, BitVec.toNat_ofNat, IntKind.wrap_u64]
  omega
set_option maxRecDepth 100000 in
theorem mul_le_of (p q P Q : Int) (hp : 0 ≤ p) (hq : 0 ≤ q) (h1 : p ≤ P) (h2 : q ≤ Q) : 0 ≤ p * q ∧ p * q ≤ P * Q :=
  ⟨Int.mul_nonneg hp hq, Int.mul_le_mul h1 h2 hq (Int.le_trans hp h1)⟩
set_option maxRecDepth 100000 in
theorem wide_core (p00 p10 p01 p11 : Int) (a0 : 0 ≤ p00) (a1 : p00 ≤ 18446744065119617025) (b0 : 0 ≤ p10) (b1 : p10 ≤ 9223372034707292160) (c0 : 0 ≤ p01) (c1 : p01 ≤ 9223372034707292160) (d0 : 0 ≤ p11) (d1 : p11 ≤ 4611686018427387904)
    (hm : ∀ n : Int, 0 ≤ n → n < 18446744073709551616 → bits .and .u64 n 4294967295 = n % 4294967296) :
    IntKind.u64.wrap (IntKind.u64.wrap (IntKind.u64.wrap p11 + IntKind.u64.wrap (IntKind.u64.wrap p10 + IntKind.u64.wrap p00 / 4294967296) / 4294967296) + IntKind.u64.wrap (bits .and .u64 (IntKind.u64.wrap (IntKind.u64.wrap p10 + IntKind.u64.wrap p00 / 4294967296)) 4294967295 + IntKind.u64.wrap p01) / 4294967296) = (p11 * 18446744073709551616 + (p10 + p01) * 4294967296 + p00) / 18446744073709551616 := by
  have e00 : IntKind.u64.wrap p00 = p00 := by rw [IntKind.wrap_u64]; omega
  have e10 : IntKind.u64.wrap p10 = p10 := by rw [IntKind.wrap_u64]; omega
  have e01 : IntKind.u64.wrap p01 = p01 := by rw [IntKind.wrap_u64]; omega
  have e11 : IntKind.u64.wrap p11 = p11 := by rw [IntKind.wrap_u64]; omega
  have em : IntKind.u64.wrap (p10 + p00 / 4294967296) = p10 + p00 / 4294967296 := by rw [IntKind.wrap_u64]; omega
  rw [e00, e10, e01, e11, em, hm _ (by omega) (by omega)]
  simp only [IntKind.wrap_u64]
  omega
set_option maxRecDepth 100000 in
theorem wide_hi (x y : Int) (x1 : 0 ≤ x) (x2 : x ≤ 9223372036854775808) (y1 : 0 ≤ y) (y2 : y ≤ 9223372036854775808) :
    IntKind.u64.wrap
                (IntKind.u64.wrap
                    (IntKind.u64.wrap (x / 4294967296 * (y / 4294967296)) +
                      IntKind.u64.wrap
                          (IntKind.u64.wrap (x / 4294967296 * bits BinOp.and IntKind.u64 y 4294967295) +
                            IntKind.u64.wrap
                                (bits BinOp.and IntKind.u64 x 4294967295 * bits BinOp.and IntKind.u64 y 4294967295) /
                              4294967296) /
                        4294967296) +
                  IntKind.u64.wrap
                      (bits BinOp.and IntKind.u64
                          (IntKind.u64.wrap
                            (IntKind.u64.wrap (x / 4294967296 * bits BinOp.and IntKind.u64 y 4294967295) +
                              IntKind.u64.wrap
                                  (bits BinOp.and IntKind.u64 x 4294967295 * bits BinOp.and IntKind.u64 y 4294967295) /
                                4294967296))
                          4294967295 +
                        IntKind.u64.wrap (bits BinOp.and IntKind.u64 x 4294967295 * (y / 4294967296))) /
                    4294967296) = x * y / 18446744073709551616 := by
  rw [mask32 x x1 (by omega), mask32 y y1 (by omega)]
  have p00 := mul_le_of (x % 4294967296) (y % 4294967296) 4294967295 4294967295 (by omega) (by omega) (by omega) (by omega)
  have p10 := mul_le_of (x / 4294967296) (y % 4294967296) 2147483648 4294967295 (by omega) (by omega) (by omega) (by omega)
  have p01 := mul_le_of (x % 4294967296) (y / 4294967296) 4294967295 2147483648 (by omega) (by omega) (by omega) (by omega)
  have p11 := mul_le_of (x / 4294967296) (y / 4294967296) 2147483648 2147483648 (by omega) (by omega) (by omega) (by omega)
  rw [wide_core _ _ _ _ p00.1 p00.2 p10.1 p10.2 p01.1 p01.2 p11.1 p11.2 mask32]
  congr 1
  have ex : x = x / 4294967296 * 4294967296 + x % 4294967296 := by omega
  have ey : y = y / 4294967296 * 4294967296 + y % 4294967296 := by omega
  generalize x / 4294967296 = u1 at *
  generalize x % 4294967296 = u0 at *
  generalize y / 4294967296 = v1 at *
  generalize y % 4294967296 = v0 at *
  rw [ex, ey, Int.mul_add, Int.add_mul (u1 * 4294967296) u0 (v1 * 4294967296), Int.add_mul (u1 * 4294967296) u0 v0]
  have e1 : u1 * 4294967296 * (v1 * 4294967296) = u1 * v1 * 18446744073709551616 := by
    rw [Int.mul_assoc, ← Int.mul_assoc 4294967296, Int.mul_comm 4294967296 v1, Int.mul_assoc, ← Int.mul_assoc]; rfl
  have e2 : u1 * 4294967296 * v0 = u1 * v0 * 4294967296 := by rw [Int.mul_assoc, Int.mul_comm 4294967296 v0, ← Int.mul_assoc]
  have e3 : u0 * (v1 * 4294967296) = u0 * v1 * 4294967296 := by rw [← Int.mul_assoc]
  rw [e1, e2, e3]
  omega
set_option maxRecDepth 100000 in
theorem low_eq (a b : Int) : IntKind.u64.wrap (IntKind.u64.wrap a * IntKind.u64.wrap b) = loZ (a * b) := by
  unfold loZ
  simp only [IntKind.wrap_u64]
  rw [← Int.mul_emod]
set_option maxRecDepth 100000 in
/-- the sizes' product, with its sign -/
theorem prod_sign (a b x y : Int) (hx : x = a.natAbs) (hy : y = b.natAbs) : ((a < 0) ↔ (b < 0)) ∧ a * b = x * y ∨ ¬ ((a < 0) ↔ (b < 0)) ∧ a * b = -(x * y) := by
  have ha : a = x ∨ a = -x := by omega
  have hb : b = y ∨ b = -y := by omega
  by_cases h1 : a < 0 <;> by_cases h2 : b < 0
  · have ea : a = -x := by omega
    have eb : b = -y := by omega
    exact .inl ⟨by simp [h1, h2], by rw [ea, eb, Int.neg_mul_neg]⟩
  · have ea : a = -x := by omega
    have eb : b = y := by omega
    exact .inr ⟨by simp [h1, h2], by rw [ea, eb, Int.neg_mul]⟩
  · have ea : a = x := by omega
    have eb : b = -y := by omega
    exact .inr ⟨by simp [h1, h2], by rw [ea, eb, Int.mul_neg]⟩
  · have ea : a = x := by omega
    have eb : b = y := by omega
    exact .inl ⟨by simp [h1, h2], by rw [ea, eb]⟩
set_option maxRecDepth 100000 in
theorem hi_same (N : Int) : wrap64 (N / 18446744073709551616) = hiZ N := rfl
set_option maxRecDepth 100000 in
theorem hi_neg0 (N : Int) (h0 : 0 ≤ N) (h1 : N ≤ 85070591730234615865843651857942052864) (hl : loZ (-N) = 0) : wrap64 (IntKind.u64.wrap (bits .xor .u64 IntKind.u64.max (N / 18446744073709551616) + 1)) = hiZ (-N) := by
  rw [not64 _ (by omega) (by omega), IntKind.wrap_u64]
  unfold loZ at hl
  unfold hiZ wrap64
  omega
set_option maxRecDepth 100000 in
theorem hi_neg (N : Int) (h0 : 0 ≤ N) (h1 : N ≤ 85070591730234615865843651857942052864) (hl : loZ (-N) ≠ 0) : wrap64 (bits .xor .u64 IntKind.u64.max (N / 18446744073709551616)) = hiZ (-N) := by
  rw [not64 _ (by omega) (by omega)]
  unfold loZ at hl
  unfold hiZ wrap64
  omega
attribute [local irreducible] satZ hiZ loZ
set_option maxRecDepth 100000 in
set_option maxHeartbeats 1000000 in
theorem w_wide (a b : Int) (w : World) (ha : I64 a) (hb : I64 b) :
    Calls Try.prog 76 #[.int .i64 a, .int .i64 b] w fun e w' => e = .returned (.tuple #[.int .i64 (hiZ (a * b)), .int .u64 (loZ (a * b))]) ∧ w = w' := by
  obtain ⟨a1, a2⟩ := ha
  obtain ⟨b1, b2⟩ := hb
  obtain ⟨x, hx⟩ : ∃ x : Int, x = a.natAbs := ⟨_, rfl⟩
  obtain ⟨y, hy⟩ : ∃ y : Int, y = b.natAbs := ⟨_, rfl⟩
  have hx1 : 0 ≤ x ∧ x ≤ 9223372036854775808 := by omega
  have hy1 : 0 ≤ y ∧ y ≤ 9223372036854775808 := by omega
  have hxh := hide hx
  have hyh := hide hy
  clear hx hy
  obtain ⟨x1, x2⟩ := hx1
  obtain ⟨y1, y2⟩ := hy1
  go_enter Try.func76, Try.ntmps76
  go_wp2_with fail
  refine (w_abs64 a _ ⟨a1, a2⟩).mono ?_
  rintro e w' ⟨rfl, rfl⟩
  rw [← hxh.out]
  go_wp2_with fail
  refine (w_abs64 b _ ⟨b1, b2⟩).mono ?_
  rintro e w' ⟨rfl, rfl⟩
  rw [← hyh.out]
  go_wp2_with fail
  · have hs := ‹(!decide (a < 0) == decide (b < 0)) = true›
    have hl := ‹(IntKind.u64.wrap (IntKind.u64.wrap a * IntKind.u64.wrap b) == 0) = true›
    rw [low_eq, beq_iff_eq] at hl
    have hp := (prod_sign a b x y hxh.out hyh.out).resolve_left (fun e => by have := e.1; by_cases h1 : a < 0 <;> by_cases h2 : b < 0 <;> simp [h1, h2] at hs this)
    have hN := mul_le_of x y 9223372036854775808 9223372036854775808 x1 y1 x2 y2
    go_ret2
    refine ⟨ret_int2 ?_ (low_eq a b), rfl⟩
    rw [wide_hi x y x1 x2 y1 y2]
    rw [hp.2] at hl ⊢
    exact hi_neg0 _ hN.1 hN.2 hl
  · have hs := ‹(!decide (a < 0) == decide (b < 0)) = true›
    have hl := ‹(IntKind.u64.wrap (IntKind.u64.wrap a * IntKind.u64.wrap b) == 0) = false›
    rw [low_eq, beq_eq_false_iff_ne] at hl
    have hp := (prod_sign a b x y hxh.out hyh.out).resolve_left (fun e => by have := e.1; by_cases h1 : a < 0 <;> by_cases h2 : b < 0 <;> simp [h1, h2] at hs this)
    have hN := mul_le_of x y 9223372036854775808 9223372036854775808 x1 y1 x2 y2
    go_ret2
    refine ⟨ret_int2 ?_ (low_eq a b), rfl⟩
    rw [wide_hi x y x1 x2 y1 y2]
    rw [hp.2] at hl ⊢
    exact hi_neg _ hN.1 hN.2 hl
  · have hs := ‹(!decide (a < 0) == decide (b < 0)) = false›
    have hp := (prod_sign a b x y hxh.out hyh.out).resolve_right (fun e => by have := e.1; by_cases h1 : a < 0 <;> by_cases h2 : b < 0 <;> simp [h1, h2] at hs this)
    go_ret2
    refine ⟨ret_int2 ?_ (low_eq a b), rfl⟩
    rw [wide_hi x y x1 x2 y1 y2, hp.2]
    exact hi_same _

set_option maxRecDepth 100000 in
theorem mul_zero_of (a b : Int) (h : a = 0 ∨ b = 0) : (0 : Int) = satZ (a * b) := by
  rcases h with rfl | rfl
  · rw [Int.zero_mul, satZ_in _ (by decide) (by decide)]
  · rw [Int.mul_zero, satZ_in _ (by decide) (by decide)]
set_option maxRecDepth 100000 in
theorem prod_bd (a b : Int) (ha : I64 a) (hb : I64 b) : -85070591730234615865843651857942052864 ≤ a * b ∧ a * b ≤ 85070591730234615865843651857942052864 := by
  obtain ⟨a1, a2⟩ := ha
  obtain ⟨b1, b2⟩ := hb
  have hN := mul_le_of a.natAbs b.natAbs 9223372036854775808 9223372036854775808 (by omega) (by omega) (by omega) (by omega)
  rcases prod_sign a b _ _ rfl rfl with ⟨_, h⟩ | ⟨_, h⟩ <;> rw [h] <;> omega
set_option maxRecDepth 100000 in
theorem wide_back (z : Int) (h1 : -85070591730234615865843651857942052864 ≤ z) (h2 : z ≤ 85070591730234615865843651857942052864) : z = hiZ z * 18446744073709551616 + loZ z ∧ 0 ≤ loZ z ∧ loZ z < 18446744073709551616 := by
  unfold hiZ loZ wrap64
  omega
set_option maxRecDepth 100000 in
set_option maxHeartbeats 1000000 in
theorem w_mul (a b : Int) (w : World) (ha : I64 a) (hb : I64 b) :
    Calls Try.prog 74 #[.int .i64 a, .int .i64 b] w fun e w' => e = .returned (.int .i64 (satZ (a * b))) ∧ w = w' := by
  by_cases a0 : a = 0
  · have hm := hide (mul_zero_of a b (.inl a0))
    rw [← hm.out]
    subst a0
    clear hm
    go_enter Try.func74, Try.ntmps74
    go_wp2_with fail
    go_ret
    exact ⟨rfl, rfl⟩
  · have ea : (a == 0) = false := by simp; exact a0
    by_cases b0 : b = 0
    · have hm := hide (mul_zero_of a b (.inr b0))
      rw [← hm.out]
      subst b0
      clear hm
      go_enter Try.func74, Try.ntmps74
      go_wp2_with fail
      go_ret
      exact ⟨rfl, rfl⟩
    · have eb : (b == 0) = false := by simp; exact b0
      have hpb := prod_bd a b ha hb
      have hwb := wide_back (a * b) hpb.1 hpb.2
      have hzl := Lib.hid (satZ_lo (a * b))
      have hzh := Lib.hid (satZ_hi (a * b))
      have hzi := Lib.hid (satZ_in (a * b))
      obtain ⟨hw1, hw2, hw3⟩ := hwb
      have hc := hide (w_wide a b w ha hb)
      have hpbh := hide hpb
      have hw1h := hide hw1
      clear hpb hw1
      generalize a * b = z at *
      generalize hiZ z = hi at *
      generalize loZ z = lo at *
      go_enter Try.func74, Try.ntmps74
      go_wp2_with fail
      refine hc.out.mono ?_
      rintro e w' ⟨rfl, rfl⟩
      go_wp2_with fail
      all_goals
        have hz1 := hw1h.out
        have hz2 := hpbh.out
        go_ret
        refine ⟨ret_int ?_, rfl⟩
        first
          | (rw [hzi.out (by omega) (by omega)]; omega)
          | (rw [hzi.out (by omega) (by omega)]; unfold wrap64; omega)
          | (rw [hzh.out (by omega)])
          | (rw [hzl.out (by omega)])
end Go.Proofs.Ytipfoclmdbbjiaa

/- The contracts of package backstayref01 that tell quotients and numbers going round. Conditions: the arguments are numbers of their kinds. -/
namespace Go.Proofs.Ytipfoclmdbbjiaa
open Go.RowKit
attribute [local irreducible] satZ floorZ restZ behindZ

set_option maxRecDepth 100000 in
theorem floor_m1_most : 9223372036854775807 = floorZ (-9223372036854775808) (-1) := by decide +kernel
set_option maxRecDepth 100000 in
theorem floor_m1_in (a : Int) (ha : I64 a) (h : a ≠ -9223372036854775808) : -a = floorZ a (-1) := by
  obtain ⟨a1, a2⟩ := ha
  rw [← floor_m1, satZ_in _ (by omega) (by omega)]

set_option maxRecDepth 100000 in
theorem behind_hi (a b : Int) (ha : 0 ≤ a ∧ a < 4294967296) (hb : 0 ≤ b ∧ b < 4294967296) (h : 2147483648 ≤ a - b) : a - b - 4294967296 = behindZ a b := by
  unfold behindZ; split <;> omega
set_option maxRecDepth 100000 in
theorem behind_lo (a b : Int) (ha : 0 ≤ a ∧ a < 4294967296) (hb : 0 ≤ b ∧ b < 4294967296) (h : a - b < -2147483648) : a - b + 4294967296 = behindZ a b := by
  unfold behindZ; split <;> omega
set_option maxRecDepth 100000 in
theorem behind_mid (a b : Int) (h1 : -2147483648 ≤ a - b) (h : a - b < 2147483648) : a - b = behindZ a b := by
  unfold behindZ; split <;> omega
end Go.Proofs.Ytipfoclmdbbjiaa

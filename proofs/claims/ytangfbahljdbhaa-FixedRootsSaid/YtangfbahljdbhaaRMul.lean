/- The document's product of two numbers, held. Conditions: integers of 64 bits. -/
import Derived.Test.YtangfbahljdbhaaWord5
import Derived.Test.YtangfbahljdbhaaWide4
namespace Go.Proofs.Ytangfbahljdbhaa
open Go.RowKit
theorem zv_prod (a b : Int) : zv (decide (a < 0) != decide (b < 0)) (a.natAbs * b.natAbs) = a * b := by
  have hm : ((a.natAbs * b.natAbs : Nat) : Int) = (a.natAbs : Int) * b.natAbs := by simp
  unfold zv
  rw [hm]
  rcases prod_sign a b _ _ rfl rfl with ⟨h, e⟩ | ⟨h, e⟩ <;> rw [e] <;> by_cases h1 : a < 0 <;> by_cases h2 : b < 0 <;> simp [h1, h2] at h ⊢
theorem abs_lt4 (n : Int) (hn : I64 n) : n.natAbs < 65536 ^ 4 := by
  obtain ⟨h1, h2⟩ := hn
  have : (65536 : Nat) ^ 4 = 18446744073709551616 := by decide
  omega
theorem prod_lt (a b : Nat) (ha : a < 65536 ^ 4) (hb : b < 65536 ^ 4) : a * b < 65536 ^ 8 := by
  have : (65536 : Nat) ^ 8 = 65536 ^ 4 * 65536 ^ 4 := by rw [← Nat.pow_add]
  rw [this]
  exact Nat.mul_lt_mul'' ha hb
theorem r_mul (a b : Int) (w : World) (ha : I64 a) (hb : I64 b) :
    Calls Try.prog 19 #[.int .i64 a, .int .i64 b] w fun e w' => e = .returned (.int .i64 (satZ (a * b))) ∧ Below w.heap.size w w' := by
  have la := hide (abs_lt4 a ha)
  have lb := hide (abs_lt4 b hb)
  have hz := hide (zv_prod a b)
  go_enter Try.func19, Try.ntmps19
  go_wp2_with fail
  refine (r_of a w ha).mono ?_
  rintro e w1 ⟨rfl, hB1⟩
  go_wp2_with fail
  refine (r_of b w1 hb).mono ?_
  rintro e w2 ⟨rfl, hB2⟩
  go_wp2_with fail
  refine (r_times _ _ _ _ w2 la.out lb.out).mono ?_
  rintro e w3 ⟨rfl, hB3⟩
  go_wp2_with fail
  refine (r_held _ _ w3 (Nat.lt_of_lt_of_le (prod_lt _ _ la.out lb.out) (by decide))).mono ?_
  rintro e w4 ⟨rfl, hB4⟩
  go_wp2_with fail
  go_ret
  exact ⟨ret_int (by rw [hz.out]), hB1.trans ((hB2.mono hB1.size).trans ((hB3.mono (Nat.le_trans hB1.size hB2.size)).trans (hB4.mono (Nat.le_trans hB1.size (Nat.le_trans hB2.size hB3.size)))))⟩
end Go.Proofs.Ytangfbahljdbhaa

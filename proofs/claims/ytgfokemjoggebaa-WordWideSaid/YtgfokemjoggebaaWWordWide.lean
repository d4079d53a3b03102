/- The walk of the law WordWide: it answers true for every two numbers. -/
import Derived.Test.YtgfokemjoggebaaWord5
import Derived.Test.YtgfokemjoggebaaWide4
import Derived.Test.YtgfokemjoggebaaWordAwake
namespace Go.Proofs.Ytgfokemjoggebaa
open Go.RowKit
theorem zv_prod (a b : Int) : zv (decide (a < 0) != decide (b < 0)) (a.natAbs * b.natAbs) = a * b := by
  have hm : ((a.natAbs * b.natAbs : Nat) : Int) = (a.natAbs : Int) * b.natAbs := by simp
  unfold zv
  rw [hm]
  rcases prod_sign a b _ _ rfl rfl with ⟨h, e⟩ | ⟨h, e⟩ <;> rw [e] <;> by_cases h1 : a < 0 <;> by_cases h2 : b < 0 <;> simp [h1, h2] at h ⊢
theorem abs_lt4 (n : Int) (hn : I64 n) : n.natAbs < 65536 ^ 4 := by
  obtain ⟨h1, h2⟩ := hn
  have : (65536 : Nat) ^ 4 = 18446744073709551616 := by decide
  omega
theorem prod_lt (a b : Nat) (ha : a < 65536 ^ 4) (hb : b < 65536 ^ 4) : a * b < 65536 ^ 8 := by
  have : (65536 : Nat) ^ 8 = 65536 ^ 4 * 65536 ^ 4 := by rw [← Nat.pow_add]
  rw [this]
  exact Nat.mul_lt_mul'' ha hb
theorem r_mul (a b : Int) (w : World) (ha : I64 a) (hb : I64 b) :
    Calls Try.prog 39 #[.int .i64 a, .int .i64 b] w fun e w' => e = .returned (.int .i64 (satZ (a * b))) ∧ Below w.heap.size w w' := by
  have la := hide (abs_lt4 a ha)
  have lb := hide (abs_lt4 b hb)
  have hz := hide (zv_prod a b)
  go_enter Try.func39, Try.ntmps39
  go_wp2_with fail
  refine (r_of a w ha).mono ?_
  rintro e w1 ⟨rfl, hB1⟩
  go_wp2_with fail
  refine (r_of b w1 hb).mono ?_
  rintro e w2 ⟨rfl, hB2⟩
  go_wp2_with fail
  refine (r_times _ _ _ _ w2 la.out lb.out).mono ?_
  rintro e w3 ⟨rfl, hB3⟩
  go_wp2_with fail
  refine (r_held _ _ w3 (Nat.lt_of_lt_of_le (prod_lt _ _ la.out lb.out) (by decide))).mono ?_
  rintro e w4 ⟨rfl, hB4⟩
  go_wp2_with fail
  go_ret
  exact ⟨ret_int (by rw [hz.out]), hB1.trans ((hB2.mono hB1.size).trans ((hB3.mono (Nat.le_trans hB1.size hB2.size)).trans (hB4.mono (Nat.le_trans hB1.size (Nat.le_trans hB2.size hB3.size)))))⟩
attribute [local irreducible] satZ hiZ loZ wideA dg
set_option maxHeartbeats 400000 in
theorem wordWide_walk (a0 : Int) (a1 : Int) (w : World) (w0 : (Lit.int .i64 a0).wf = true) (w1 : (Lit.int .i64 a1).wf = true) :
    Calls Try.prog 10 #[.int .i64 a0, .int .i64 a1] w fun e w' => e = .returned (.bool true) ∧ Below w.heap.size w w' := by
  have ha := hide (i64_bd w0)
  have hb := hide (i64_bd w1)
  have la := hide (abs_lt4 a0 ha.out)
  have lb := hide (abs_lt4 a1 hb.out)
  have hz := hide (zv_prod a0 a1)
  clear w0 w1
  go_enter Try.func10, Try.ntmps10
  go_wp2_with fail
  refine (word_awake _).mono ?_
  rintro e w' ⟨rfl, rfl⟩
  go_wp2_with fail
  refine (w_wide a0 a1 _ ha.out hb.out).mono ?_
  rintro e w' ⟨rfl, rfl⟩
  go_wp2_with fail
  refine (r_of a0 w ha.out).mono ?_
  rintro e w1 ⟨rfl, hB1⟩
  go_wp2_with fail
  refine (r_of a1 w1 hb.out).mono ?_
  rintro e w2 ⟨rfl, hB2⟩
  go_wp2_with fail
  refine (r_times _ _ _ _ w2 la.out lb.out).mono ?_
  rintro e w3 ⟨rfl, hB3⟩
  go_wp2_with fail
  refine (r_parts _ _ w3 (prod_lt _ _ la.out lb.out)).mono ?_
  rintro e w4 ⟨rfl, hB4⟩
  rw [hz.out]
  go_wp2_with fail
  go_ret
  exact ⟨ret_bool (by simp), hB1.trans ((hB2.mono hB1.size).trans ((hB3.mono (Nat.le_trans hB1.size hB2.size)).trans (hB4.mono (Nat.le_trans hB1.size (Nat.le_trans hB2.size hB3.size)))))⟩
end Go.Proofs.Ytgfokemjoggebaa

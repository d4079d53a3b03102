/- The walk of the law WordAdds: it answers true for every two numbers. -/
import Derived.Test.YtgfokemjoggebaaWWordWide
namespace Go.Proofs.Ytgfokemjoggebaa
open Go.RowKit
attribute [local irreducible] satZ hiZ loZ wideA dg
theorem r_sub (a b : Int) (w : World) (ha : I64 a) (hb : I64 b) :
    Calls Try.prog 37 #[.int .i64 a, .int .i64 b] w fun e w' => e = .returned (.int .i64 (satZ (a - b))) ∧ Below w.heap.size w w' := by
  have la := hide (abs_lt a ha)
  have lb := hide (abs_lt b hb)
  go_enter Try.func37, Try.ntmps37
  go_wp2_with fail
  refine (r_of a w ha).mono ?_
  rintro e w1 ⟨rfl, hB1⟩
  go_wp2_with fail
  refine (r_of b w1 hb).mono ?_
  rintro e w2 ⟨rfl, hB2⟩
  go_wp2_with fail
  refine (r_turn _ _ w2).mono ?_
  rintro e w2b ⟨rfl, hB2b⟩
  go_wp2_with fail
  refine (r_Plus _ _ _ _ w2b (Nat.lt_of_lt_of_le la.out (by decide)) (Nat.lt_of_lt_of_le lb.out (by decide))).mono ?_
  rintro e w3 ⟨m, v, rfl, hz, hle, hB3⟩
  rw [zv_turn, zv_of, zv_of] at hz
  have hzh := hide hz
  have hleh := hide hle
  clear hz hle
  go_wp2_with fail
  refine (r_held m v w3 (Nat.lt_of_le_of_lt hleh.out (Nat.lt_of_le_of_lt (Nat.add_le_add (Nat.le_of_lt la.out) (Nat.le_of_lt lb.out)) p89))).mono ?_
  rintro e w4 ⟨rfl, hB4⟩
  go_wp2_with fail
  go_ret
  have s1 := hB1.size
  have s2 := Nat.le_trans s1 hB2.size
  have s3 := Nat.le_trans s2 hB2b.size
  have s4 := Nat.le_trans s3 hB3.size
  exact ⟨ret_int (by rw [hzh.out, Int.sub_eq_add_neg]), hB1.trans ((hB2.mono s1).trans ((hB2b.mono s2).trans ((hB3.mono s3).trans (hB4.mono s4))))⟩
set_option maxHeartbeats 400000 in
theorem wordAdds_walk (a0 : Int) (a1 : Int) (w : World) (w0 : (Lit.int .i64 a0).wf = true) (w1 : (Lit.int .i64 a1).wf = true) :
    Calls Try.prog 11 #[.int .i64 a0, .int .i64 a1] w fun e w' => e = .returned (.bool true) ∧ Below w.heap.size w w' := by
  have ha := hide (i64_bd w0)
  have hb := hide (i64_bd w1)
  clear w0 w1
  go_enter Try.func11, Try.ntmps11
  go_wp2_with fail
  refine (word_awake _).mono ?_
  rintro e w' ⟨rfl, rfl⟩
  go_wp2_with fail
  refine (w_add a0 a1 _ ha.out hb.out).mono ?_
  rintro e w' ⟨rfl, rfl⟩
  go_wp2_with fail
  refine (r_add a0 a1 _ ha.out hb.out).mono ?_
  rintro e w1 ⟨rfl, hB1⟩
  go_wp2_with fail
  refine (w_sub a0 a1 _ ha.out hb.out).mono ?_
  rintro e w' ⟨rfl, rfl⟩
  go_wp2_with fail
  refine (r_sub a0 a1 _ ha.out hb.out).mono ?_
  rintro e w2 ⟨rfl, hB2⟩
  go_wp2_with fail
  refine (w_mul a0 a1 _ ha.out hb.out).mono ?_
  rintro e w' ⟨rfl, rfl⟩
  go_wp2_with fail
  refine (r_mul a0 a1 _ ha.out hb.out).mono ?_
  rintro e w3 ⟨rfl, hB3⟩
  go_wp2_with fail
  go_ret
  exact ⟨ret_bool (by simp), hB1.trans ((hB2.mono hB1.size).trans (hB3.mono (Nat.le_trans hB1.size hB2.size)))⟩
end Go.Proofs.Ytgfokemjoggebaa

/- The contracts of the document's Clamp, Abs and Sub of layer 01. Conditions: int64s. -/
import Derived.Test.YtangfbahljdbhaaRMul
import Derived.Test.YtangfbahljdbhaaWide3
import Derived.Test.YtangfbahljdbhaaWord4
namespace Go.Proofs.Ytangfbahljdbhaa
open Go.RowKit
set_option maxHeartbeats 400000 in
theorem r_clamp (n lo hi : Int) (w : World) :
    Calls Try.prog 53 #[.int .i64 n, .int .i64 lo, .int .i64 hi] w fun e w' => e = .returned (.int .i64 (clampZ n lo hi)) ∧ w = w' := by
  by_cases h1 : n < lo
  · go_enter Try.func53, Try.ntmps53
    go_wp2_with fail
    all_goals
      go_ret
      exact ⟨ret_int (by unfold clampZ; omega), rfl⟩
  · by_cases h2 : hi < lo
    · go_enter Try.func53, Try.ntmps53
      go_wp2_with fail
      all_goals
        go_ret
        exact ⟨ret_int (by unfold clampZ; omega), rfl⟩
    · go_enter Try.func53, Try.ntmps53
      go_wp2_with fail
      all_goals
        go_ret
        exact ⟨ret_int (by unfold clampZ; omega), rfl⟩
attribute [local irreducible] wideA dg satZ clampZ
theorem zv_abs (v : Nat) : zv false v = (v : Int) := by unfold zv; simp
set_option maxHeartbeats 400000 in
theorem r_abs (n : Int) (w : World) (hn : I64 n) :
    Calls Try.prog 22 #[.int .i64 n] w fun e w' => e = .returned (.int .i64 (satZ n.natAbs)) ∧ Below w.heap.size w w' := by
  have la := hide (Nat.lt_of_lt_of_le (abs_lt n hn) (by decide : 65536 ^ 8 ≤ 65536 ^ 9))
  have hz := zeroWide
  go_enter Try.func22, Try.ntmps22
  go_wp2_with fail
  refine (r_of n w hn).mono ?_
  rintro e w1 ⟨rfl, hB1⟩
  have hn0 := last_block0 w1 (.cells (wideA false (fun _ => 0)) 40) w1.heap.size rfl
  go_upto_region 2 with (refine wpList_store_row rfl _ _ _ rfl _ _ rfl rfl _ _ hn0 (wide_info _ _) (wideA_sz _ _ _ _) (wideA_one _ _) ?_)
  generalize hW : World.setRow _ _ _ = V
  have hd : V.heap[w1.heap.size]? = some (.cells (wideA (decide (n < 0)) (dg n.natAbs)) 40 (0, 0)) := by rw [← hW]; exact setRow_heap _ _ _ _ _ _ hn0
  have hvel : Below w.heap.size w V := by rw [← hW]; exact below_setRow (hB1.alloc hB1.size _) hB1.size _
  have hsz := hB1.size
  clear hW hn0 hz hB1
  have c0 : V.cell? ⟨w1.heap.size, 0, none⟩ = some (.bool (decide (n < 0))) := by rw [cell_of_block hd]; exact wideA_get0 _ _
  have f0 : V.frozen? ⟨w1.heap.size, 0, none⟩ = false := frozen_blk hd
  go_upto_region 3 with (fail)
  generalize hW : V.setCell _ _ = X
  have he : X.heap[w1.heap.size]? = some (.cells (wideA false (dg n.natAbs)) 40 (0, 0)) := by rw [← hW, blk_set hd, wideA_set0]
  have hxel : Below w.heap.size w X := by rw [← hW]; exact hvel.setCell hsz _
  clear hW hd c0 f0 hvel
  go_wp2_with (refine wpList_load_row rfl _ _ rfl _ rfl _ _ _ _ he Try.underlying40 rfl (wide_info _ _) ?_)
  refine (r_held false n.natAbs X la.out).mono ?_
  rintro e w2 ⟨rfl, hB2⟩
  go_wp2_with fail
  go_ret
  exact ⟨ret_int (by rw [zv_abs]), hxel.trans (hB2.mono hxel.size)⟩
attribute [local irreducible] hiZ loZ
theorem r_sub (a b : Int) (w : World) (ha : I64 a) (hb : I64 b) :
    Calls Try.prog 23 #[.int .i64 a, .int .i64 b] w fun e w' => e = .returned (.int .i64 (satZ (a - b))) ∧ Below w.heap.size w w' := by
  have la := hide (abs_lt a ha)
  have lb := hide (abs_lt b hb)
  go_enter Try.func23, Try.ntmps23
  go_wp2_with fail
  refine (r_of a w ha).mono ?_
  rintro e w1 ⟨rfl, hB1⟩
  go_wp2_with fail
  refine (r_of b w1 hb).mono ?_
  rintro e w2 ⟨rfl, hB2⟩
  go_wp2_with fail
  refine (r_turn _ _ w2).mono ?_
  rintro e w2b ⟨rfl, hB2b⟩
  go_wp2_with fail
  refine (r_Plus _ _ _ _ w2b (Nat.lt_of_lt_of_le la.out (by decide)) (Nat.lt_of_lt_of_le lb.out (by decide))).mono ?_
  rintro e w3 ⟨m, v, rfl, hz, hle, hB3⟩
  rw [zv_turn, zv_of, zv_of] at hz
  have hzh := hide hz
  have hleh := hide hle
  clear hz hle
  go_wp2_with fail
  refine (r_held m v w3 (Nat.lt_of_le_of_lt hleh.out (Nat.lt_of_le_of_lt (Nat.add_le_add (Nat.le_of_lt la.out) (Nat.le_of_lt lb.out)) p89))).mono ?_
  rintro e w4 ⟨rfl, hB4⟩
  go_wp2_with fail
  go_ret
  have s1 := hB1.size
  have s2 := Nat.le_trans s1 hB2.size
  have s3 := Nat.le_trans s2 hB2b.size
  have s4 := Nat.le_trans s3 hB3.size
  exact ⟨ret_int (by rw [hzh.out, Int.sub_eq_add_neg]), hB1.trans ((hB2.mono s1).trans ((hB2b.mono s2).trans ((hB3.mono s3).trans (hB4.mono s4))))⟩
end Go.Proofs.Ytangfbahljdbhaa

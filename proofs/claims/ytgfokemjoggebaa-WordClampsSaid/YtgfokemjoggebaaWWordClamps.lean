/- The walk of the law WordClamps: it answers true for every three numbers. -/
import Derived.Test.YtgfokemjoggebaaWord4
import Derived.Test.YtgfokemjoggebaaWide3
import Derived.Test.YtgfokemjoggebaaWordAwake
namespace Go.Proofs.Ytgfokemjoggebaa
open Go.RowKit
set_option maxHeartbeats 400000 in
theorem r_clamp (n lo hi : Int) (w : World) :
    Calls Try.prog 25 #[.int .i64 n, .int .i64 lo, .int .i64 hi] w fun e w' => e = .returned (.int .i64 (clampZ n lo hi)) ∧ w = w' := by
  by_cases h1 : n < lo
  · go_enter Try.func25, Try.ntmps25
    go_wp2_with fail
    all_goals
      go_ret
      exact ⟨ret_int (by unfold clampZ; omega), rfl⟩
  · by_cases h2 : hi < lo
    · go_enter Try.func25, Try.ntmps25
      go_wp2_with fail
      all_goals
        go_ret
        exact ⟨ret_int (by unfold clampZ; omega), rfl⟩
    · go_enter Try.func25, Try.ntmps25
      go_wp2_with fail
      all_goals
        go_ret
        exact ⟨ret_int (by unfold clampZ; omega), rfl⟩
attribute [local irreducible] wideA dg satZ clampZ
theorem zv_abs (v : Nat) : zv false v = (v : Int) := by unfold zv; simp
set_option maxHeartbeats 400000 in
theorem r_abs (n : Int) (w : World) (hn : I64 n) :
    Calls Try.prog 27 #[.int .i64 n] w fun e w' => e = .returned (.int .i64 (satZ n.natAbs)) ∧ Below w.heap.size w w' := by
  have la := hide (Nat.lt_of_lt_of_le (abs_lt n hn) (by decide : 65536 ^ 8 ≤ 65536 ^ 9))
  have hz := zeroWide
  go_enter Try.func27, Try.ntmps27
  go_wp2_with fail
  refine (r_of n w hn).mono ?_
  rintro e w1 ⟨rfl, hB1⟩
  have hn0 := last_block0 w1 (.cells (wideA false (fun _ => 0)) 48) w1.heap.size rfl
  go_upto_region 2 with (refine wpList_store_row rfl _ _ _ rfl _ _ rfl rfl _ _ hn0 (wide_info _ _) (wideA_sz _ _ _ _) (wideA_one _ _) ?_)
  generalize hW : World.setRow _ _ _ = V
  have hd : V.heap[w1.heap.size]? = some (.cells (wideA (decide (n < 0)) (dg n.natAbs)) 48 (0, 0)) := by rw [← hW]; exact setRow_heap _ _ _ _ _ _ hn0
  have hvel : Below w.heap.size w V := by rw [← hW]; exact below_setRow (hB1.alloc hB1.size _) hB1.size _
  have hsz := hB1.size
  clear hW hn0 hz hB1
  have c0 : V.cell? ⟨w1.heap.size, 0, none⟩ = some (.bool (decide (n < 0))) := by rw [cell_of_block hd]; exact wideA_get0 _ _
  have f0 : V.frozen? ⟨w1.heap.size, 0, none⟩ = false := frozen_blk hd
  go_upto_region 3 with (fail)
  generalize hW : V.setCell _ _ = X
  have he : X.heap[w1.heap.size]? = some (.cells (wideA false (dg n.natAbs)) 48 (0, 0)) := by rw [← hW, blk_set hd, wideA_set0]
  have hxel : Below w.heap.size w X := by rw [← hW]; exact hvel.setCell hsz _
  clear hW hd c0 f0 hvel
  go_wp2_with (refine wpList_load_row rfl _ _ rfl _ rfl _ _ _ _ he Try.underlying48 rfl (wide_info _ _) ?_)
  refine (r_held false n.natAbs X la.out).mono ?_
  rintro e w2 ⟨rfl, hB2⟩
  go_wp2_with fail
  go_ret
  exact ⟨ret_int (by rw [zv_abs]), hxel.trans (hB2.mono hxel.size)⟩
set_option maxHeartbeats 400000 in
theorem wordClamps_walk (a0 : Int) (a1 : Int) (a2 : Int) (w : World) (w0 : (Lit.int .i64 a0).wf = true) (w1 : (Lit.int .i64 a1).wf = true) (w2 : (Lit.int .i64 a2).wf = true) :
    Calls Try.prog 8 #[.int .i64 a0, .int .i64 a1, .int .i64 a2] w fun e w' => e = .returned (.bool true) ∧ Below w.heap.size w w' := by
  have h0 := i64_bd w0
  clear w0 w1 w2
  obtain ⟨h1, h2⟩ := h0
  by_cases hneg : a0 < 0
  · go_enter Try.func8, Try.ntmps8
    go_wp2_with fail
    refine (word_awake _).mono ?_
    rintro e w' ⟨rfl, rfl⟩
    go_wp2_with fail
    refine (w_clamp a0 a1 a2 _).mono ?_
    rintro e w' ⟨rfl, rfl⟩
    go_wp2_with fail
    refine (r_clamp a0 a1 a2 _).mono ?_
    rintro e w' ⟨rfl, rfl⟩
    go_wp2_with fail
    refine (w_abs a0 _ ⟨h1, h2⟩).mono ?_
    rintro e w' ⟨rfl, rfl⟩
    go_wp2_with fail
    refine (r_abs a0 _ ⟨h1, h2⟩).mono ?_
    rintro e w1 ⟨rfl, hB⟩
    go_wp2_with fail
    refine (w_abs64 a0 _ ⟨h1, h2⟩).mono ?_
    rintro e w' ⟨rfl, rfl⟩
    go_wp2_with fail
    go_ret
    exact ⟨ret_bool (by simp [IntKind.wrap_u64] <;> omega), hB⟩
  · go_enter Try.func8, Try.ntmps8
    go_wp2_with fail
    refine (word_awake _).mono ?_
    rintro e w' ⟨rfl, rfl⟩
    go_wp2_with fail
    refine (w_clamp a0 a1 a2 _).mono ?_
    rintro e w' ⟨rfl, rfl⟩
    go_wp2_with fail
    refine (r_clamp a0 a1 a2 _).mono ?_
    rintro e w' ⟨rfl, rfl⟩
    go_wp2_with fail
    refine (w_abs a0 _ ⟨h1, h2⟩).mono ?_
    rintro e w' ⟨rfl, rfl⟩
    go_wp2_with fail
    refine (r_abs a0 _ ⟨h1, h2⟩).mono ?_
    rintro e w1 ⟨rfl, hB⟩
    go_wp2_with fail
    refine (w_abs64 a0 _ ⟨h1, h2⟩).mono ?_
    rintro e w' ⟨rfl, rfl⟩
    go_wp2_with fail
    go_ret
    exact ⟨ret_bool (by simp <;> omega), hB⟩
end Go.Proofs.Ytgfokemjoggebaa

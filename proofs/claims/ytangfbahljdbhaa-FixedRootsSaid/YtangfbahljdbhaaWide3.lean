/- The contracts of backstayref01's Plus at every sign, Held, Abs, Add, Sub. Conditions: the numbers are below 65536 to the 9th. -/
import Derived.Test.YtangfbahljdbhaaWide2
namespace Go.Proofs.Ytangfbahljdbhaa
open Go.RowKit
/-- the number of a sign and a size -/
def zv (m : Bool) (v : Nat) : Int := if m = true then -(v : Int) else v
theorem zv_of (n : Int) : zv (decide (n < 0)) n.natAbs = n := by unfold zv; by_cases h : n < 0 <;> simp [h] <;> omega
theorem zv_turn (m : Bool) (v : Nat) : zv (!m) v = -zv m v := by unfold zv; cases m <;> simp
def PlusPost (W : World) (z : Int) (b : Nat) (e : Ending) (W' : World) : Prop := ∃ m v, e = .returned (.agg (wideA m (dg v))) ∧ zv m v = z ∧ v ≤ b ∧ Below W.heap.size W W'
theorem PlusPost.of {W : World} {m : Bool} {v : Nat} {z : Int} {b : Nat} {e : Ending} {W' : World} (h : WidePost W m v e W') (hz : zv m v = z) (hb : v ≤ b) : PlusPost W z b e W' := ⟨m, v, h.1, hz, hb, h.2⟩
theorem r_Plus (ma mb : Bool) (va vb : Nat) (w : World) (ha : va < 65536 ^ 9) (hb : vb < 65536 ^ 9) :
    Calls Try.prog 34 #[.agg (wideA ma (dg va)), .agg (wideA mb (dg vb))] w (PlusPost w (zv ma va + zv mb vb) (va + vb)) := by
  cases ma <;> cases mb
  · exact (r_Plus_same false va vb w).mono fun _ _ h => PlusPost.of h (by simp [zv]) (by omega)
  · by_cases hlt : va < vb
    · exact (r_Plus_ft_lt va vb w ha hb hlt).mono fun _ _ h => PlusPost.of h (by simp [zv] <;> omega) (by omega)
    · exact (r_Plus_ft_ge va vb w ha hb (by omega)).mono fun _ _ h => PlusPost.of h (by simp [zv] <;> omega) (by omega)
  · by_cases hlt : va < vb
    · exact (r_Plus_tf_lt va vb w ha hb hlt).mono fun _ _ h => PlusPost.of h (by simp [zv] <;> omega) (by omega)
    · exact (r_Plus_tf_ge va vb w ha hb (by omega)).mono fun _ _ h => PlusPost.of h (by simp [zv] <;> omega) (by omega)
  · exact (r_Plus_same true va vb w).mono fun _ _ h => PlusPost.of h (by simp [zv] <;> omega) (by omega)
theorem dg_mod (v k i : Nat) (h : i < k) : dg (v % 65536 ^ k) i = dg v i := by
  unfold dg
  have e : 65536 ^ k = 65536 ^ i * 65536 ^ (k - i) := by rw [← Nat.pow_add]; congr 1; omega
  rw [e, Nat.mod_mul_right_div_self]
  obtain ⟨j, hj⟩ : ∃ j, k - i = j + 1 := ⟨k - i - 1, by omega⟩
  rw [hj, Nat.pow_succ, Nat.mul_comm, Nat.mod_mul_right_mod]
theorem big_dg (v : Nat) (h : 65536 ^ 4 ≤ v) (h9 : v < 65536 ^ 9) : 0 < dg v 4 + dg v 5 + dg v 6 + dg v 7 + dg v 8 := by
  rcases Nat.eq_zero_or_pos (dg v 4 + dg v 5 + dg v 6 + dg v 7 + dg v 8) with h0 | h0
  · exfalso
    have e4 := div_step v 4
    have e5 := div_step v 5
    have e6 := div_step v 6
    have e7 := div_step v 7
    have e8 := div_step v 8
    have e9 : v / 65536 ^ (8 + 1) = 0 := Nat.div_eq_of_lt h9
    have hp : 1 ≤ v / 65536 ^ 4 := (Nat.one_le_div_iff (pw_pos 4)).2 h
    simp only [Nat.reduceAdd] at *
    omega
  · exact h0
attribute [local irreducible] wideA dg satZ
theorem down_step (x j : Nat) : ((x / 65536 ^ (j + 1) : Nat) : Int) * 65536 + ((dg x j : Nat) : Int) = ((x / 65536 ^ j : Nat) : Int) := by
  rw [← word_down x j]; simp
theorem down_lt (x j : Nat) (hj : j ≤ 3) (hx : x < 65536 ^ 4) : x / 65536 ^ (j + 1) < 281474976710656 := by
  apply Nat.div_lt_of_lt_mul
  have h1 : 65536 ^ 1 ≤ 65536 ^ (j + 1) := Nat.pow_le_pow_right (by decide) (by omega)
  calc x < 65536 ^ 4 := hx
    _ = 65536 ^ 1 * 281474976710656 := by decide
    _ ≤ 65536 ^ (j + 1) * 281474976710656 := Nat.mul_le_mul_right _ h1

set_option maxHeartbeats 1000000 in
theorem r_held_small (m : Bool) (v : Nat) (w : World) (hv : v < 65536 ^ 4) :
    Calls Try.prog 41 #[.agg (wideA m (dg v))] w fun e w' => e = .returned (.int .i64 (satZ (zv m v))) ∧ Below w.heap.size w w' := by
  go_enter Try.func41, Try.ntmps41
  go_upto_region 1 with (fail)
  generalize hW : w.alloc (Obj.cells (wideA m (dg v)) 40) = W
  have hb0 : W.heap[w.heap.size]? = some (.cells (wideA m (dg v)) 40 (0, 0)) := by rw [← hW]; exact last_block0 _ _ _ rfl
  have hbel : Below w.heap.size w W := by rw [← hW]; exact (Below.refl _ _).alloc (Nat.le_refl _) _
  clear hW
  have hb0h := hide hb0
  have hd : ∀ i, 4 ≤ i → i < 9 → W.cell? ⟨w.heap.size, 1 + i, none⟩ = some (.int .u64 0) := by
    intro i h1 h2
    rw [cell_of_block hb0, wideA_get _ _ i h2, dg_over v i 4 hv h1]; rfl
  have d4 := hd 4 (by omega) (by omega)
  have d5 := hd 5 (by omega) (by omega)
  have d6 := hd 6 (by omega) (by omega)
  have d7 := hd 7 (by omega) (by omega)
  have d8 := hd 8 (by omega) (by omega)
  simp only [Nat.reduceAdd] at d4 d5 d6 d7 d8
  clear hd hb0
  go_wp2_with fail
  go_loop [3, 5] (fun v' i => ∃ j : Nat, j ≤ 4 ∧ i = .int .i64 ((j : Int) - 1) ∧ v' = .int .u64 (v / 65536 ^ j : Nat)) (fun _ i => (intOf i + 1).toNat)
  case atStart => exact ⟨4, by omega, rfl, by rw [Nat.div_eq_of_lt hv]; rfl⟩
  case round =>
    obtain ⟨k, hk, rfl, rfl⟩ := hrel
    clear d4 d5 d6 d7 d8
    by_cases hlt : 0 < k
    · obtain ⟨j, rfl⟩ : ∃ j, k = j + 1 := ⟨k - 1, by omega⟩
      have ej : Hid (((j + 1 : Nat) : Int) - 1 = (j : Int)) := hide (by omega)
      rw [ej.out]
      have hc0 : W.cell? ⟨w.heap.size, 1 + j, none⟩ = some (.int .u64 (dg v j : Nat)) := by
        rw [cell_of_block hb0h.out, wideA_get _ _ j (by omega)]
      have hst := hide (down_step v j)
      have hl := down_lt v j (by omega) hv
      have hx := dg_lt v j
      have hvh := hide hv
      clear hv
      generalize v / 65536 ^ (j + 1) = y at *
      generalize dg v j = x at *
      go_wp2_with fail
      rw [hst.out]
      go_round
      case rel => exact ⟨j, by omega, rfl, rfl⟩
      case measure => simp [intOf]
    · obtain rfl : k = 0 := by omega
      have e0 : Hid (((v / 65536 ^ 0 : Nat) : Int) = (v : Int)) := hide (by simp)
      have hv64 : (v : Int) < 18446744073709551616 := by have : v < 18446744073709551616 := hv; omega
      have c0 : W.cell? ⟨w.heap.size, 0, none⟩ = some (.bool m) := by rw [cell_of_block hb0h.out]; exact wideA_get0 _ _
      rw [e0.out]
      clear hv
      cases m
      · by_cases hbig : (9223372036854775807 : Int) < v
        · go_wp2_with fail
          go_ret
          exact ⟨ret_int (satZ_hi _ (by simp [zv] <;> omega)).symm, hbel⟩
        · go_wp2_with fail
          go_ret
          exact ⟨ret_int (by rw [satZ_in _ (by simp [zv] <;> omega) (by simp [zv] <;> omega)]; simp [zv]), hbel⟩
      · by_cases hbig : (9223372036854775808 : Int) ≤ v
        · go_wp2_with fail
          go_ret
          exact ⟨ret_int (satZ_lo _ (by simp [zv] <;> omega)).symm, hbel⟩
        · go_wp2_with fail
          go_ret
          exact ⟨ret_int (by rw [satZ_in _ (by simp [zv] <;> omega) (by simp [zv] <;> omega)]; simp [zv]), hbel⟩

/-- What the great digits are: five numbers, not all 0. -/
theorem some_big (v : Nat) (h : 65536 ^ 4 ≤ v) (h9 : v < 65536 ^ 9) : dg v 4 ≠ 0 ∨ (dg v 4 = 0 ∧ dg v 5 ≠ 0) ∨ (dg v 4 = 0 ∧ dg v 5 = 0 ∧ dg v 6 ≠ 0) ∨ (dg v 4 = 0 ∧ dg v 5 = 0 ∧ dg v 6 = 0 ∧ dg v 7 ≠ 0) ∨ (dg v 4 = 0 ∧ dg v 5 = 0 ∧ dg v 6 = 0 ∧ dg v 7 = 0 ∧ dg v 8 ≠ 0) := by
  have := big_dg v h h9
  omega
set_option maxHeartbeats 2000000 in
theorem r_held_big (m : Bool) (v : Nat) (w : World) (hv : v < 65536 ^ 9) (hge : 65536 ^ 4 ≤ v) :
    Calls Try.prog 41 #[.agg (wideA m (dg v))] w fun e w' => e = .returned (.int .i64 (satZ (zv m v))) ∧ Below w.heap.size w w' := by
  have hbg := some_big v hge hv
  have hs : Hid (satZ (zv m v) = if m = true then -9223372036854775808 else 9223372036854775807) := by
    have hge' : 18446744073709551616 ≤ v := hge
    cases m
    · exact hide (by rw [satZ_hi _ (by simp [zv] <;> omega)]; rfl)
    · exact hide (by rw [satZ_lo _ (by simp [zv] <;> omega)]; rfl)
  rw [hs.out]
  clear hs hge hv
  have hx4 := dg_lt v 4
  have hx5 := dg_lt v 5
  have hx6 := dg_lt v 6
  have hx7 := dg_lt v 7
  have hx8 := dg_lt v 8
  go_enter Try.func41, Try.ntmps41
  go_upto_region 1 with (fail)
  generalize hW : w.alloc (Obj.cells (wideA m (dg v)) 40) = W
  have hb0 : W.heap[w.heap.size]? = some (.cells (wideA m (dg v)) 40 (0, 0)) := by rw [← hW]; exact last_block0 _ _ _ rfl
  have hbel : Below w.heap.size w W := by rw [← hW]; exact (Below.refl _ _).alloc (Nat.le_refl _) _
  clear hW
  have hb0h := hide hb0
  have hd : ∀ i, i < 9 → W.cell? ⟨w.heap.size, 1 + i, none⟩ = some (.int .u64 (dg v i : Nat)) := by
    intro i h2
    rw [cell_of_block hb0, wideA_get _ _ i h2]
  have d4 := hd 4 (by omega)
  have d5 := hd 5 (by omega)
  have d6 := hd 6 (by omega)
  have d7 := hd 7 (by omega)
  have d8 := hd 8 (by omega)
  simp only [Nat.reduceAdd] at d4 d5 d6 d7 d8
  clear hd hb0
  generalize dg v 4 = x4 at *
  generalize dg v 5 = x5 at *
  generalize dg v 6 = x6 at *
  generalize dg v 7 = x7 at *
  generalize dg v 8 = x8 at *
  rcases hbg with h | ⟨rfl, h⟩ | ⟨rfl, rfl, h⟩ | ⟨rfl, rfl, rfl, h⟩ | ⟨rfl, rfl, rfl, rfl, h⟩
  all_goals
    have hpos := Nat.pos_of_ne_zero h
    clear h
    go_wp2_with fail
    go_loop [3, 5] (fun v' i => ∃ (j : Nat) (y : Int), j ≤ 4 ∧ i = .int .i64 ((j : Int) - 1) ∧ v' = .int .u64 y) (fun _ i => (intOf i + 1).toNat)
    case atStart => exact ⟨4, 0, by omega, rfl, rfl⟩
    case round =>
      obtain ⟨k, y, hk, rfl, rfl⟩ := hrel
      clear d4 d5 d6 d7 d8
      by_cases hlt : 0 < k
      · obtain ⟨j, rfl⟩ : ∃ j, k = j + 1 := ⟨k - 1, by omega⟩
        have ej : Hid (((j + 1 : Nat) : Int) - 1 = (j : Int)) := hide (by omega)
        rw [ej.out]
        have hc0 : W.cell? ⟨w.heap.size, 1 + j, none⟩ = some (.int .u64 (dg v j : Nat)) := by
          rw [cell_of_block hb0h.out, wideA_get _ _ j (by omega)]
        go_wp2_with fail
        go_round
        case rel => exact ⟨j, _, by omega, rfl, rfl⟩
        case measure => simp [intOf]
      · obtain rfl : k = 0 := by omega
        have c0 : W.cell? ⟨w.heap.size, 0, none⟩ = some (.bool m) := by rw [cell_of_block hb0h.out]; exact wideA_get0 _ _
        cases m
        · go_wp2_with fail
          go_ret
          exact ⟨rfl, hbel⟩
        · go_wp2_with fail
          go_ret
          exact ⟨rfl, hbel⟩
theorem r_held (m : Bool) (v : Nat) (w : World) (hv : v < 65536 ^ 9) :
    Calls Try.prog 41 #[.agg (wideA m (dg v))] w fun e w' => e = .returned (.int .i64 (satZ (zv m v))) ∧ Below w.heap.size w w' := by
  by_cases h : v < 65536 ^ 4
  · exact r_held_small m v w h
  · exact r_held_big m v w hv (by omega)

theorem abs_lt (n : Int) (hn : I64 n) : n.natAbs < 65536 ^ 8 := by
  obtain ⟨h1, h2⟩ := hn
  have : (65536 : Nat) ^ 8 = 340282366920938463463374607431768211456 := by decide
  omega
theorem p89 : (65536 : Nat) ^ 8 + 65536 ^ 8 < 65536 ^ 9 := by decide
theorem r_add (a b : Int) (w : World) (ha : I64 a) (hb : I64 b) :
    Calls Try.prog 45 #[.int .i64 a, .int .i64 b] w fun e w' => e = .returned (.int .i64 (satZ (a + b))) ∧ Below w.heap.size w w' := by
  have la := hide (abs_lt a ha)
  have lb := hide (abs_lt b hb)
  go_enter Try.func45, Try.ntmps45
  go_wp2_with fail
  refine (r_of a w ha).mono ?_
  rintro e w1 ⟨rfl, hB1⟩
  go_wp2_with fail
  refine (r_of b w1 hb).mono ?_
  rintro e w2 ⟨rfl, hB2⟩
  go_wp2_with fail
  refine (r_Plus _ _ _ _ w2 (Nat.lt_of_lt_of_le la.out (by decide)) (Nat.lt_of_lt_of_le lb.out (by decide))).mono ?_
  rintro e w3 ⟨m, v, rfl, hz, hle, hB3⟩
  rw [zv_of, zv_of] at hz
  have hzh := hide hz
  have hleh := hide hle
  clear hz hle
  go_wp2_with fail
  refine (r_held m v w3 (Nat.lt_of_le_of_lt hleh.out (Nat.lt_of_le_of_lt (Nat.add_le_add (Nat.le_of_lt la.out) (Nat.le_of_lt lb.out)) p89))).mono ?_
  rintro e w4 ⟨rfl, hB4⟩
  go_wp2_with fail
  go_ret
  exact ⟨ret_int (by rw [hzh.out]), hB1.trans ((hB2.mono hB1.size).trans ((hB3.mono (Nat.le_trans hB1.size hB2.size)).trans (hB4.mono (Nat.le_trans hB1.size (Nat.le_trans hB2.size hB3.size)))))⟩
end Go.Proofs.Ytangfbahljdbhaa

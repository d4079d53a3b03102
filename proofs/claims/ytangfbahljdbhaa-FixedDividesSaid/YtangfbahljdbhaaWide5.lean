/- The contract of backstayref01's Parts: the upper and the lower half of a number of 128 bits. Conditions: the number is below 65536 to the 8th. -/
import Derived.Test.YtangfbahljdbhaaWide3
namespace Go.Proofs.Ytangfbahljdbhaa
open Go.RowKit
/-- the halves of a number: 2^64 times the first one, and the second one -/
def hiZ (z : Int) : Int := wrap64 (z / 18446744073709551616)
def loZ (z : Int) : Int := z % 18446744073709551616
theorem dg_div (v k i : Nat) : dg (v / 65536 ^ k) i = dg v (i + k) := by
  unfold dg
  rw [Nat.div_div_eq_div_mul, ← Nat.pow_add, Nat.add_comm k i]
theorem half_lt (v : Nat) (hv : v < 65536 ^ 8) : v / 65536 ^ 4 < 65536 ^ 4 := by
  apply Nat.div_lt_of_lt_mul
  rw [← Nat.pow_add]; exact hv
theorem parts_plus (v : Nat) : wrap64 ((v / 65536 ^ 4 : Nat) : Int) = hiZ (zv false v) ∧ ((v % 65536 ^ 4 : Nat) : Int) = loZ (zv false v) := by
  have h4 : (65536 : Nat) ^ 4 = 18446744073709551616 := by decide
  unfold hiZ loZ zv
  rw [h4]
  simp
theorem parts_minus0 (v : Nat) (h : v % 65536 ^ 4 = 0) : wrap64 (-(wrap64 ((v / 65536 ^ 4 : Nat) : Int))) = hiZ (zv true v) ∧ (0 : Int) = loZ (zv true v) := by
  have h4 : (65536 : Nat) ^ 4 = 18446744073709551616 := by decide
  rw [h4] at *
  unfold hiZ loZ zv wrap64
  simp only [if_true]
  omega
theorem parts_minus (v : Nat) (h : v % 65536 ^ 4 ≠ 0) : wrap64 (wrap64 (-(wrap64 ((v / 65536 ^ 4 : Nat) : Int))) - 1) = hiZ (zv true v) ∧ IntKind.u64.wrap (-((v % 65536 ^ 4 : Nat) : Int)) = loZ (zv true v) := by
  have h4 : (65536 : Nat) ^ 4 = 18446744073709551616 := by decide
  rw [h4] at *
  rw [IntKind.wrap_u64]
  unfold hiZ loZ zv wrap64
  simp only [if_true]
  omega
attribute [local irreducible] wideA dg hiZ loZ
def PartsPost (W : World) (z : Int) (e : Ending) (W' : World) : Prop := e = .returned (.tuple #[.int .i64 (hiZ z), .int .u64 (loZ z)]) ∧ Below W.heap.size W W'
set_option maxHeartbeats 1000000 in
theorem r_parts (m : Bool) (v : Nat) (w : World) (hv : v < 65536 ^ 8) :
    Calls Try.prog 39 #[.agg (wideA m (dg v))] w (PartsPost w (zv m v)) := by
  have hvl : v % 65536 ^ 4 < 65536 ^ 4 := Nat.mod_lt _ (by decide)
  have hvh := half_lt v hv
  have hvl' := hide hvl
  have hvh' := hide hvh
  clear hvl hvh hv
  go_enter Try.func39, Try.ntmps39
  go_upto_region 1 with (fail)
  generalize hW : w.alloc (Obj.cells (wideA m (dg v)) 40) = W
  have hb0 : W.heap[w.heap.size]? = some (.cells (wideA m (dg v)) 40 (0, 0)) := by rw [← hW]; exact last_block0 _ _ _ rfl
  have hbel : Below w.heap.size w W := by rw [← hW]; exact (Below.refl _ _).alloc (Nat.le_refl _) _
  clear hW
  have hb0h := hide hb0
  clear hb0
  go_wp2_with fail
  go_loop [4, 5, 6] (fun hi lo i => ∃ j : Nat, j ≤ 4 ∧ i = .int .i64 ((j : Int) - 1) ∧ hi = .int .u64 (v / 65536 ^ 4 / 65536 ^ j : Nat) ∧ lo = .int .u64 (v % 65536 ^ 4 / 65536 ^ j : Nat)) (fun _ _ i => (intOf i + 1).toNat)
  case atStart => exact ⟨4, by omega, rfl, by rw [Nat.div_eq_of_lt hvh'.out]; rfl, by rw [Nat.div_eq_of_lt hvl'.out]; rfl⟩
  case round =>
    obtain ⟨k, hk, rfl, rfl, rfl⟩ := hrel
    by_cases hlt : 0 < k
    · obtain ⟨j, rfl⟩ : ∃ j, k = j + 1 := ⟨k - 1, by omega⟩
      have ej : Hid (((j + 1 : Nat) : Int) - 1 = (j : Int)) := hide (by omega)
      rw [ej.out]
      have hc0 : W.cell? ⟨w.heap.size, 1 + j, none⟩ = some (.int .u64 (dg v j : Nat)) := by
        rw [cell_of_block hb0h.out, wideA_get _ _ j (by omega)]
      have hc1 : W.cell? ⟨w.heap.size, 1 + (j + 4), none⟩ = some (.int .u64 (dg v (j + 4) : Nat)) := by
        rw [cell_of_block hb0h.out, wideA_get _ _ (j + 4) (by omega)]
      have hst := down_step (v % 65536 ^ 4) j
      rw [dg_mod v 4 j (by omega)] at hst
      have hst2 := down_step (v / 65536 ^ 4) j
      rw [dg_div v 4 j] at hst2
      have hl := down_lt (v % 65536 ^ 4) j (by omega) hvl'.out
      have hl2 := down_lt (v / 65536 ^ 4) j (by omega) hvh'.out
      have hx := dg_lt v j
      have hx2 := dg_lt v (j + 4)
      have hsth := hide hst
      have hst2h := hide hst2
      clear hst hst2
      generalize v % 65536 ^ 4 / 65536 ^ (j + 1) = y at *
      generalize dg v j = x at *
      generalize v / 65536 ^ 4 / 65536 ^ (j + 1) = y2 at *
      generalize dg v (j + 4) = x2 at *
      go_wp2_with fail
      rw [hsth.out, hst2h.out]
      go_round
      case rel => exact ⟨j, by omega, rfl, rfl, rfl⟩
      case measure => simp [intOf]
    · obtain rfl : k = 0 := by omega
      have c0 : W.cell? ⟨w.heap.size, 0, none⟩ = some (.bool m) := by rw [cell_of_block hb0h.out]; exact wideA_get0 _ _
      have ea : Hid (v % 65536 ^ 4 / 65536 ^ 0 = v % 65536 ^ 4) := hide (by rw [Nat.pow_zero, Nat.div_one])
      have eb : Hid (v / 65536 ^ 4 / 65536 ^ 0 = v / 65536 ^ 4) := hide (by rw [Nat.pow_zero, Nat.div_one])
      rw [ea.out, eb.out]
      cases m
      · obtain ⟨p1, p2⟩ := parts_plus v
        have p1h := hide p1
        have p2h := hide p2
        have hb1 : v / 65536 ^ 4 < 65536 ^ 4 := hvh'.out
        clear p1 p2 hb1
        go_wp2_with fail
        go_ret2
        exact ⟨by rw [← p1h.out, ← p2h.out]; rfl, hbel⟩
      · by_cases h0 : v % 65536 ^ 4 = 0
        · obtain ⟨p1, p2⟩ := parts_minus0 v h0
          have p1h := hide p1
          have p2h := hide p2
          clear p1 p2
          rw [h0]
          clear h0
          go_wp2_with fail
          go_ret2
          exact ⟨by rw [← p1h.out, ← p2h.out]; rfl, hbel⟩
        · obtain ⟨p1, p2⟩ := parts_minus v h0
          have p1h := hide p1
          have p2h := hide p2
          have e0 : (((v % 65536 ^ 4 : Nat) : Int) == 0) = false := by rw [beq_eq_false_iff_ne]; intro h; exact h0 (by omega)
          clear p1 p2 h0
          go_wp2_with fail
          go_ret2
          exact ⟨by rw [← p1h.out, ← p2h.out]; rfl, hbel⟩
end Go.Proofs.Ytangfbahljdbhaa

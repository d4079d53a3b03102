/- The contract of package fixed's Div. Conditions: the arguments are int64s. -/
import Derived.Test.YtangfbahljdbhaaFixed3
import Derived.Test.YtangfbahljdbhaaWord4
namespace Go.Proofs.Ytangfbahljdbhaa
open Go.RowKit
def divZ (a b : Int) : Int := if b = 0 then 0 else if 140737488355327 < floorZ a b then 9223372036854775807 else if floorZ a b < -140737488355328 then -9223372036854775808 else floorZ a b * 65536 + ((restZ a b).natAbs : Int) * 65536 / (b.natAbs : Int)
theorem dv_pos (a b : Int) (h : 0 < b) : 0 ≤ restZ a b ∧ restZ a b < b := by
  unfold restZ; rw [if_neg (by omega)]
  exact ⟨Int.fmod_nonneg_of_pos a h, Int.fmod_lt_of_pos a h⟩
theorem dv_neg (a b : Int) (h : b < 0) : restZ a b ≤ 0 ∧ b < restZ a b := by
  unfold restZ; rw [if_neg (by omega), fmod_of a b (by omega)]
  have := tmod_abs a b (by omega)
  split <;> omega
theorem dv_abs (a b : Int) (b0 : b ≠ 0) : (restZ a b).natAbs < b.natAbs := by
  by_cases h : 0 < b
  · have := dv_pos a b h; omega
  · have := dv_neg a b (by omega); omega
theorem or_one2 (D : Int) (h0 : 0 ≤ D) (h1 : D ≤ 65536) : bits .or .i64 (D * 2) 1 = D * 2 + 1 := by
  show IntKind.i64.wrap ((BitVec.ofInt 64 (D * 2) ||| BitVec.ofInt 64 1).toNat : Int) = _
  have e1 : (BitVec.ofInt 64 (D * 2)).toNat = 2 ^ 1 * D.toNat := by
    rw [BitVec.toNat_ofInt]
    omega
  have e2 : (BitVec.ofInt 64 1).toNat = 1 := by decide
  rw [BitVec.toNat_or, e1, e2, ← Nat.two_pow_add_eq_or_of_lt (by omega), IntKind.wrap_i64]
  omega
theorem dv_end (r y D E : Int) (hE : 0 ≤ E) (hE2 : E < y) (h : r * 65536 = D * y + E) : D = r * 65536 / y := by
  rw [h, Int.add_comm, Int.add_mul_ediv_right E D (by omega), Int.ediv_eq_zero_of_lt hE hE2, Int.zero_add]
theorem dv_lt (r y D E P : Int) (hr : r < y) (hE : 0 ≤ E) (hy : 0 < y) (hP : 0 < P) (h : r * P = D * y + E) : D < P := by
  by_cases c : D < P
  · exact c
  · exfalso
    have h1 := Int.mul_le_mul_of_nonneg_right (show P ≤ D by omega) (show 0 ≤ y by omega)
    have h2 := Int.mul_le_mul_of_nonneg_right (show r ≤ y - 1 by omega) (show 0 ≤ P by omega)
    rw [Int.sub_mul, Int.one_mul, Int.mul_comm y P] at h2
    omega
theorem dv_next0 (r y D E : Int) (i : Nat) (h : r * 2 ^ i = D * y + E) : r * 2 ^ (i + 1) = (D * 2) * y + E * 2 := by
  rw [Int.pow_succ, ← Int.mul_assoc, h, Int.add_mul, Int.mul_assoc, Int.mul_assoc, Int.mul_comm y 2]
theorem dv_next1 (r y D E : Int) (i : Nat) (h : r * 2 ^ i = D * y + E) : r * 2 ^ (i + 1) = (D * 2 + 1) * y + (E * 2 - y) := by
  rw [dv_next0 r y D E i h, Int.add_mul, Int.one_mul]; omega
theorem pow16 (i : Nat) (h : i ≤ 16) : (0 : Int) < 2 ^ i ∧ (2 : Int) ^ i ≤ 65536 := by
  have h1 : (2 : Nat) ^ i ≤ 65536 := Nat.le_trans (Nat.pow_le_pow_right (by decide) h) (by decide)
  have h0 : 0 < (2 : Nat) ^ i := Nat.pow_pos (by decide)
  have e : ((2 ^ i : Nat) : Int) = (2 : Int) ^ i := by simp
  rw [← e]
  generalize (2 : Nat) ^ i = N at *
  omega
attribute [local irreducible] satZ floorZ restZ
set_option maxRecDepth 100000 in
set_option maxHeartbeats 2000000 in
theorem f_div (a b : Int) (w : World) (ha : I64 a) (hb : I64 b) :
    Calls Try.prog 29 #[.int .i64 a, .int .i64 b] w fun e w' => e = .returned (.int .i64 (divZ a b)) ∧ w = w' := by
  unfold divZ
  by_cases b0 : b = 0
  · rw [if_pos b0]
    have d : (b == 0) = true := by simp; exact b0
    go_enter Try.func29, Try.ntmps29
    go_wp2_with fail
    go_ret
    exact ⟨rfl, rfl⟩
  rw [if_neg b0]
  have d : (b == 0) = false := by simp; exact b0
  have hab := dv_abs a b b0
  have hbb := hb
  obtain ⟨hb1, hb2⟩ := hbb
  have k1 := Lib.hid (w_floor a b w ha hb)
  have k2 := Lib.hid (w_rest a b w ha hb)
  have k3 := Lib.hid (w_abs64 (restZ a b) w ⟨by omega, by omega⟩)
  have k4 := Lib.hid (w_abs64 b w hb)
  obtain ⟨r, hr⟩ : ∃ r : Int, r = ((restZ a b).natAbs : Int) := ⟨_, rfl⟩
  obtain ⟨y, hy⟩ : ∃ y : Int, y = (b.natAbs : Int) := ⟨_, rfl⟩
  rw [← hr] at k3 ⊢
  rw [← hy] at k4 ⊢
  have r0 : 0 ≤ r := by omega
  have ry : r < y := by omega
  have y1 : y ≤ 9223372036854775808 := by omega
  clear ha hb hab hb1 hb2 hr hy b0
  generalize floorZ a b = q at *
  generalize restZ a b = s at *
  by_cases c1 : 140737488355327 < q
  · rw [if_pos c1]
    have d1 : decide (q > 140737488355327) = true := decide_eq_true c1
    go_enter Try.func29, Try.ntmps29
    go_wp2_with fail
    refine k1.out.mono ?_
    rintro e w' ⟨rfl, rfl⟩
    go_wp2_with fail
    go_ret
    exact ⟨rfl, rfl⟩
  rw [if_neg c1]
  have d1 : decide (q > 140737488355327) = false := decide_eq_false c1
  by_cases c2 : q < -140737488355328
  · rw [if_pos c2]
    have d2 : decide (q < -140737488355328) = true := decide_eq_true c2
    go_enter Try.func29, Try.ntmps29
    go_wp2_with fail
    refine k1.out.mono ?_
    rintro e w' ⟨rfl, rfl⟩
    go_wp2_with fail
    go_ret
    exact ⟨rfl, rfl⟩
  rw [if_neg c2]
  have d2 : decide (q < -140737488355328) = false := decide_eq_false c2
  go_enter Try.func29, Try.ntmps29
  go_wp2_with fail
  refine k1.out.mono ?_
  rintro e w' ⟨rfl, rfl⟩
  go_wp2_with fail
  refine k2.out.mono ?_
  rintro e w' ⟨rfl, rfl⟩
  go_wp2_with fail
  refine k3.out.mono ?_
  rintro e w' ⟨rfl, rfl⟩
  go_wp2_with fail
  refine k4.out.mono ?_
  rintro e w' ⟨rfl, rfl⟩
  clear k1 k2 k3 k4
  go_wp2_with fail
  go_loop [6, 8, 26] (fun ve vd vi => ∃ (i : Nat) (D E : Int), i ≤ 16 ∧ vi = .int .i64 i ∧ vd = .int .i64 D ∧ ve = .int .u64 E ∧ 0 ≤ D ∧ 0 ≤ E ∧ E < y ∧ Hid (r * 2 ^ i = D * y + E)) (fun _ _ vi => 16 - (intOf vi).toNat)
  case atStart => exact ⟨0, 0, r, by omega, rfl, rfl, rfl, by omega, by omega, ry, hide (by simp)⟩
  case round =>
    obtain ⟨i, D, E, hi, rfl, rfl, rfl, D0, E0, E1, heq⟩ := hrel
    have hp := pow16 i hi
    have D2 := dv_lt r y D E (2 ^ i) ry E0 (by omega) hp.1 heq.out
    have D1 : D ≤ 65535 := by have := hp.2; omega
    clear D2
    clear hp
    by_cases hlt : i < 16
    · have hor := or_one2 D D0 (by omega)
      by_cases hge : y ≤ E * 2
      · have d3 : decide (E * 2 ≥ y) = true := decide_eq_true hge
        have hn := Lib.hid (dv_next1 r y D E i heq.out)
        go_wp2_with fail
        go_round
        case rel => exact ⟨i + 1, _, _, by omega, by go_num, rfl, rfl, by omega, by omega, by omega, hn⟩
        case measure => simp [intOf]; omega
      · have d3 : decide (E * 2 ≥ y) = false := decide_eq_false hge
        have hn := Lib.hid (dv_next0 r y D E i heq.out)
        go_wp2_with fail
        go_round
        case rel => exact ⟨i + 1, _, _, by omega, by go_num, rfl, rfl, by omega, by omega, by omega, hn⟩
        case measure => simp [intOf]; omega
    · obtain rfl : i = 16 := by omega
      have hfin := Lib.hid (dv_end r y D E E0 E1 (by have := heq.out; simpa using this))
      go_wp2_with fail
      go_ret
      exact ⟨ret_int (by rw [← hfin.out]), rfl⟩
end Go.Proofs.Ytangfbahljdbhaa

/- The contracts of package fixed's Mul and Of, and of the document's Mul of layer 22. Conditions: the arguments are int64s. -/
import Derived.Test.YtangfbahljdbhaaFixed2
import Derived.Test.YtangfbahljdbhaaWide5
namespace Go.Proofs.Ytangfbahljdbhaa
open Go.RowKit
def fmulZ (z : Int) : Int := if 32768 ≤ hiZ z then 9223372036854775807 else if hiZ z < -32768 then -9223372036854775808 else hiZ z * 281474976710656 + loZ z / 65536
theorem fmul_sat (z : Int) (h1 : -85070591730234615865843651857942052864 ≤ z) (h2 : z ≤ 85070591730234615865843651857942052864) : fmulZ z = satZ (z / 65536) := by
  obtain ⟨e, l0, l1⟩ := wide_back z h1 h2
  unfold fmulZ satZ
  split
  · split
    · omega
    · split <;> omega
  · split
    · split
      · omega
      · split <;> omega
    · split
      · omega
      · split <;> omega
theorem or_parts (h l : Int) (h0 : -32768 ≤ h) (h1 : h < 32768) (l0 : 0 ≤ l) (l1 : l < 281474976710656) : bits .or .i64 (h * 281474976710656) l = h * 281474976710656 + l := by
  show IntKind.i64.wrap ((BitVec.ofInt 64 (h * 281474976710656) ||| BitVec.ofInt 64 l).toNat : Int) = _
  have e1 : (BitVec.ofInt 64 (h * 281474976710656)).toNat = 2 ^ 48 * (h % 65536).toNat := by
    rw [BitVec.toNat_ofInt]
    omega
  have e2 : (BitVec.ofInt 64 l).toNat = l.toNat := by
    rw [BitVec.toNat_ofInt]
    omega
  rw [BitVec.toNat_or, e1, e2, ← Nat.two_pow_add_eq_or_of_lt (by omega), IntKind.wrap_i64]
  omega
theorem lo_bd (z : Int) : 0 ≤ loZ z ∧ loZ z ≤ 18446744073709551615 := by unfold loZ; omega
theorem hi_bd (z : Int) : -9223372036854775808 ≤ hiZ z ∧ hiZ z ≤ 9223372036854775807 := by unfold hiZ wrap64; omega
attribute [local irreducible] satZ hiZ loZ
set_option maxRecDepth 100000 in
set_option maxHeartbeats 1000000 in
theorem f_mul (a b : Int) (w : World) (ha : I64 a) (hb : I64 b) :
    Calls Try.prog 16 #[.int .i64 a, .int .i64 b] w fun e w' => e = .returned (.int .i64 (fmulZ (a * b))) ∧ w = w' := by
  have hw := Lib.hid (w_wide a b w ha hb)
  obtain ⟨l0, l1⟩ := lo_bd (a * b)
  obtain ⟨h0, h1⟩ := hi_bd (a * b)
  unfold fmulZ
  clear ha hb
  generalize hiZ (a * b) = H at *
  generalize loZ (a * b) = L at *
  by_cases c1 : 32768 ≤ H
  · rw [if_pos c1]
    have d1 : decide (H ≥ 32768) = true := decide_eq_true c1
    go_enter Try.func16, Try.ntmps16
    go_wp2_with fail
    refine hw.out.mono ?_
    rintro e w' ⟨rfl, rfl⟩
    go_wp2_with fail
    go_ret
    exact ⟨rfl, rfl⟩
  rw [if_neg c1]
  have d1 : decide (H ≥ 32768) = false := decide_eq_false c1
  by_cases c2 : H < -32768
  · rw [if_pos c2]
    have d2 : decide (H < -32768) = true := decide_eq_true c2
    go_enter Try.func16, Try.ntmps16
    go_wp2_with fail
    refine hw.out.mono ?_
    rintro e w' ⟨rfl, rfl⟩
    go_wp2_with fail
    go_ret
    exact ⟨rfl, rfl⟩
  rw [if_neg c2]
  have d2 : decide (H < -32768) = false := decide_eq_false c2
  have hor := Lib.hid (or_parts H (L / 65536) (by omega) (by omega) (by omega) (by omega))
  go_enter Try.func16, Try.ntmps16
  go_wp2_with fail
  refine hw.out.mono ?_
  rintro e w' ⟨rfl, rfl⟩
  go_wp2_with fail
  go_ret
  exact ⟨ret_int (by rw [← hor.out]), rfl⟩
set_option maxRecDepth 100000 in
set_option maxHeartbeats 1000000 in
theorem rf_mul (a b : Int) (w : World) (ha : I64 a) (hb : I64 b) :
    Calls Try.prog 17 #[.int .i64 a, .int .i64 b] w fun e w' => e = .returned (.int .i64 (fmulZ (a * b))) ∧ Below w.heap.size w w' := by
  have la := hide (abs_lt4 a ha)
  have lb := hide (abs_lt4 b hb)
  have hz := hide (zv_prod a b)
  have hpt : Hid (∀ X : World, Calls Try.prog 39 #[.agg (wideA (decide (a < 0) != decide (b < 0)) (dg (a.natAbs * b.natAbs)))] X fun e w' => e = .returned (.tuple #[.int .i64 (hiZ (a * b)), .int .u64 (loZ (a * b))]) ∧ Below X.heap.size X w') := hide (fun X => by
    have h := r_parts (decide (a < 0) != decide (b < 0)) (a.natAbs * b.natAbs) X (prod_lt _ _ la.out lb.out)
    rw [hz.out] at h
    exact h)
  obtain ⟨l0, l1⟩ := lo_bd (a * b)
  obtain ⟨h0, h1⟩ := hi_bd (a * b)
  have hra := Lib.hid (fun X => r_of a X ha)
  have hrb := Lib.hid (fun X => r_of b X hb)
  unfold fmulZ
  clear ha hb hz
  generalize hiZ (a * b) = H at *
  generalize loZ (a * b) = L at *
  by_cases c1 : 32768 ≤ H
  · rw [if_pos c1]
    have d1 : decide (H ≥ 32768) = true := decide_eq_true c1
    go_enter Try.func17, Try.ntmps17
    go_wp2_with fail
    refine (hra.out _).mono ?_
    rintro e w1 ⟨rfl, hB1⟩
    go_wp2_with fail
    refine (hrb.out _).mono ?_
    rintro e w2 ⟨rfl, hB2⟩
    go_wp2_with fail
    refine (r_times _ _ _ _ w2 la.out lb.out).mono ?_
    rintro e w3 ⟨rfl, hB3⟩
    go_wp2_with fail
    refine (hpt.out _).mono ?_
    rintro e w4 ⟨rfl, hB4⟩
    have hB := hB1.trans ((hB2.mono hB1.size).trans ((hB3.mono (Nat.le_trans hB1.size hB2.size)).trans (hB4.mono (Nat.le_trans hB1.size (Nat.le_trans hB2.size hB3.size)))))
    clear hB1 hB2 hB3 hB4
    go_wp2_with fail
    go_ret
    exact ⟨rfl, hB⟩
  rw [if_neg c1]
  have d1 : decide (H ≥ 32768) = false := decide_eq_false c1
  by_cases c2 : H < -32768
  · rw [if_pos c2]
    have d2 : decide (H < -32768) = true := decide_eq_true c2
    go_enter Try.func17, Try.ntmps17
    go_wp2_with fail
    refine (hra.out _).mono ?_
    rintro e w1 ⟨rfl, hB1⟩
    go_wp2_with fail
    refine (hrb.out _).mono ?_
    rintro e w2 ⟨rfl, hB2⟩
    go_wp2_with fail
    refine (r_times _ _ _ _ w2 la.out lb.out).mono ?_
    rintro e w3 ⟨rfl, hB3⟩
    go_wp2_with fail
    refine (hpt.out _).mono ?_
    rintro e w4 ⟨rfl, hB4⟩
    have hB := hB1.trans ((hB2.mono hB1.size).trans ((hB3.mono (Nat.le_trans hB1.size hB2.size)).trans (hB4.mono (Nat.le_trans hB1.size (Nat.le_trans hB2.size hB3.size)))))
    clear hB1 hB2 hB3 hB4
    go_wp2_with fail
    go_ret
    exact ⟨rfl, hB⟩
  rw [if_neg c2]
  have d2 : decide (H < -32768) = false := decide_eq_false c2
  have ht : L.tdiv 65536 = L / 65536 := Int.tdiv_eq_ediv_of_nonneg l0
  go_enter Try.func17, Try.ntmps17
  go_wp2_with fail
  refine (hra.out _).mono ?_
  rintro e w1 ⟨rfl, hB1⟩
  go_wp2_with fail
  refine (hrb.out _).mono ?_
  rintro e w2 ⟨rfl, hB2⟩
  go_wp2_with fail
  refine (r_times _ _ _ _ w2 la.out lb.out).mono ?_
  rintro e w3 ⟨rfl, hB3⟩
  go_wp2_with fail
  refine (hpt.out _).mono ?_
  rintro e w4 ⟨rfl, hB4⟩
  have hB := hB1.trans ((hB2.mono hB1.size).trans ((hB3.mono (Nat.le_trans hB1.size hB2.size)).trans (hB4.mono (Nat.le_trans hB1.size (Nat.le_trans hB2.size hB3.size)))))
  clear hB1 hB2 hB3 hB4
  go_wp2_with fail
  go_ret
  exact ⟨rfl, hB⟩
set_option maxRecDepth 100000 in
theorem f_of (n : Int) (w : World) (hn : I64 n) :
    Calls Try.prog 18 #[.int .i64 n] w fun e w' => e = .returned (.int .i64 (satZ (n * 65536))) ∧ w = w' := by
  have hm := Lib.hid (w_mul n 65536 w hn ⟨by decide, by decide⟩)
  go_enter Try.func18, Try.ntmps18
  go_wp2_with fail
  refine hm.out.mono ?_
  rintro e w' ⟨rfl, rfl⟩
  go_wp2_with fail
  go_ret
  exact ⟨rfl, rfl⟩
theorem aw_root (r : Int) (h0 : 0 ≤ r) (h1 : r * r ≤ 131072 * 65536) (h2 : 131072 * 65536 < (r + 1) * (r + 1)) : r = 92681 := by
  by_cases a : r ≤ 92680
  · have := Int.mul_le_mul (show r + 1 ≤ 92681 by omega) (show r + 1 ≤ 92681 by omega) (by omega) (by omega)
    omega
  · by_cases b : 92682 ≤ r
    · have := Int.mul_le_mul b b (by omega) (by omega)
      omega
    · omega
theorem aw_mul : fmulZ (98304 * 131072) = 196608 := by decide +kernel
theorem aw_of : satZ (2 * 65536) = 131072 := by decide +kernel
attribute [local irreducible] fmulZ
set_option maxRecDepth 100000 in
set_option maxHeartbeats 1000000 in
theorem fx_awake (w : World) : Calls Try.prog 8 #[] w fun e w' => e = .returned (.bool true) ∧ w = w' := by
  have hm := Lib.hid (f_mul 98304 131072 w ⟨by decide, by decide⟩ ⟨by decide, by decide⟩)
  rw [aw_mul] at hm
  have hr := Lib.hid (f_root 131072 w (by decide) (by decide))
  have ho := Lib.hid (f_of 2 w ⟨by decide, by decide⟩)
  rw [aw_of] at ho
  go_enter Try.func8, Try.ntmps8
  go_wp2_with fail
  refine hm.out.mono ?_
  rintro e w' ⟨rfl, rfl⟩
  go_wp2_with fail
  refine hr.out.mono ?_
  rintro e w' ⟨r, r0, r1, r2, r3, rfl, rfl⟩
  obtain rfl := aw_root r r0 r2 r3
  go_wp2_with fail
  refine ho.out.mono ?_
  rintro e w' ⟨rfl, rfl⟩
  go_wp2_with fail
  go_ret
  exact ⟨rfl, rfl⟩
end Go.Proofs.Ytangfbahljdbhaa

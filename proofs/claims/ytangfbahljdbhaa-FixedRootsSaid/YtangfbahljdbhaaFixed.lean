/- The contracts of package fixed's square, under, Root, Mul, Of. Conditions: the arguments are numbers of their kinds, as the callers have them. -/
import Derived.Test.YtangfbahljdbhaaRMul
namespace Go.Proofs.Ytangfbahljdbhaa
open Go.RowKit
attribute [local irreducible] satZ
theorem sq_bd (n : Int) (h0 : 0 ≤ n) (h1 : n ≤ 1099511627776) : 0 ≤ n * n ∧ n * n ≤ 1208925819614629174706176 := by
  have := Int.mul_le_mul h1 h1 h0 (by omega)
  exact ⟨Int.mul_nonneg h0 h0, by omega⟩
theorem sq_parts (N : Int) (h0 : 0 ≤ N) (h1 : N ≤ 1208925819614629174706176) : hiZ N = N / 18446744073709551616 ∧ loZ N = N % 18446744073709551616 ∧ 0 ≤ hiZ N ∧ hiZ N ≤ 65536 ∧ 0 ≤ loZ N ∧ loZ N ≤ 18446744073709551615 := by
  unfold hiZ loZ wrap64
  omega
attribute [local irreducible] hiZ loZ
set_option maxRecDepth 100000 in
theorem f_square (n : Int) (w : World) (h0 : 0 ≤ n) (h1 : n ≤ 1099511627776) :
    Calls Try.prog 49 #[.int .u64 n] w fun e w' => e = .returned (.tuple #[.int .u64 (hiZ (n * n)), .int .u64 (loZ (n * n))]) ∧ w = w' := by
  have hb := sq_bd n h0 h1
  obtain ⟨-, -, p0, p1, p2, p3⟩ := sq_parts (n * n) hb.1 hb.2
  have hw := Lib.hid (w_wide n n w ⟨by omega, by omega⟩ ⟨by omega, by omega⟩)
  clear hb
  generalize hiZ (n * n) = H at *
  generalize loZ (n * n) = L at *
  go_enter Try.func49, Try.ntmps49
  go_wp2_with fail
  refine hw.out.mono ?_
  rintro e w' ⟨rfl, rfl⟩
  go_wp2_with fail
  go_ret2
  exact ⟨rfl, rfl⟩
theorem under_law (n a : Int) (h0 : 0 ≤ n) (h1 : n ≤ 1099511627776) (a0 : 0 ≤ a) (a1 : a ≤ 9223372036854775807) :
    decide (n * n ≤ a * 65536) = (decide (hiZ (n * n) < a / 281474976710656) || (hiZ (n * n) == a / 281474976710656 && decide (loZ (n * n) ≤ a * 65536 % 18446744073709551616))) := by
  have hb := sq_bd n h0 h1
  obtain ⟨p0, p1, _⟩ := sq_parts (n * n) hb.1 hb.2
  rw [p0, p1]
  generalize n * n = N at *
  rw [Bool.eq_iff_iff]
  simp
  omega
theorem wrap_u64 (n : Int) : IntKind.u64.wrap n = n % 18446744073709551616 := by simp [IntKind.wrap, IntKind.signed, IntKind.bits]
set_option maxRecDepth 100000 in
set_option maxHeartbeats 1000000 in
theorem f_under (n a : Int) (w : World) (h0 : 0 ≤ n) (h1 : n ≤ 1099511627776) (a0 : 0 ≤ a) (a1 : a ≤ 9223372036854775807) :
    Calls Try.prog 31 #[.int .u64 n, .int .u64 a] w fun e w' => e = .returned (.bool (decide (n * n ≤ a * 65536))) ∧ w = w' := by
  have hsq := Lib.hid (f_square n w h0 h1)
  have hlaw := Lib.hid (under_law n a h0 h1 a0 a1)
  have hb := sq_bd n h0 h1
  obtain ⟨-, -, p0, p1, p2, p3⟩ := sq_parts (n * n) hb.1 hb.2
  rw [hlaw.out]
  clear hb h0 h1 hlaw
  generalize hiZ (n * n) = H at *
  generalize loZ (n * n) = L at *
  go_enter Try.func31, Try.ntmps31
  go_wp2_with fail
  refine hsq.out.mono ?_
  rintro e w' ⟨rfl, rfl⟩
  go_wp2_with fail
  all_goals
    go_ret
    refine ⟨ret_bool ?_, rfl⟩
    try rw [show (a * 65536 % 18446744073709551616 : Int) = IntKind.u64.wrap (a * 65536) from (wrap_u64 _).symm]
    try simp_all
end Go.Proofs.Ytangfbahljdbhaa

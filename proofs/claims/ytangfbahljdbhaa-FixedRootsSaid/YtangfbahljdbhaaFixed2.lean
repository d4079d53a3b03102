/- The contract of package fixed's Root. Conditions: the argument is an int64. -/
import Derived.Test.YtangfbahljdbhaaFixed
import Derived.Test.YtangfbahljdbhaaWord2
namespace Go.Proofs.Ytangfbahljdbhaa
open Go.RowKit
def RtPost (W : World) (a : Int) (e : Ending) (W' : World) : Prop := ∃ r : Int, 0 ≤ r ∧ r < 1099511627776 ∧ r * r ≤ a * 65536 ∧ a * 65536 < (r + 1) * (r + 1) ∧ e = .returned (.int .i64 r) ∧ W = W'
theorem sq256 (m : Int) : m * 256 * (m * 256) = m * m * 65536 := by
  rw [Int.mul_assoc, Int.mul_left_comm 256 m, ← Int.mul_assoc]; rfl
theorem rt_low (n : Nat) (a : Int) (h : (n : Int) * n ≤ a) : ((n : Int) * 256) * ((n : Int) * 256) ≤ a * 65536 := by
  rw [sq256]; omega
theorem rt_high (n : Nat) (a : Int) (h : a < ((n : Int) + 1) * ((n : Int) + 1)) : a * 65536 < (((n : Int) + 1) * 256) * (((n : Int) + 1) * 256) := by
  rw [sq256]; omega
theorem rt_of (x n : Nat) (h : IsRoot x n) (hx : x ≤ 9223372036854775807) : (n : Int) * n ≤ (x : Int) ∧ (x : Int) < ((n : Int) + 1) * ((n : Int) + 1) ∧ n ≤ 4294967294 := by
  obtain ⟨h1, h2, h3⟩ := h
  have hne : n ≠ 4294967295 := by
    rintro rfl
    exact absurd (Nat.le_trans h2 hx) (by decide)
  rcases h3 with h3 | h3
  · exact absurd h3 hne
  · exact ⟨by exact_mod_cast h2, by exact_mod_cast h3, by omega⟩
attribute [local irreducible] satZ hiZ loZ IsRoot
set_option maxRecDepth 100000 in
set_option maxHeartbeats 1000000 in
theorem f_root_no (a : Int) (w : World) (h : a ≤ 0) :
    Calls Try.prog 9 #[.int .i64 a] w fun e w' => e = .returned (.int .i64 0) ∧ w = w' := by
  have d : decide (a ≤ 0) = true := decide_eq_true h
  go_enter Try.func9, Try.ntmps9
  go_wp2_with fail
  go_ret
  exact ⟨rfl, rfl⟩
set_option maxRecDepth 100000 in
set_option maxHeartbeats 1000000 in
theorem f_root (a : Int) (w : World) (h : 0 < a) (h1 : a ≤ 9223372036854775807) :
    Calls Try.prog 9 #[.int .i64 a] w (RtPost w a) := by
  obtain ⟨x, hx⟩ : ∃ x : Nat, a = x := ⟨a.toNat, by omega⟩
  have hrt := w_root x w (by omega)
  rw [← hx] at hrt
  have hrt := Lib.hid hrt
  have hof := Lib.hid (fun n hn => rt_of x n hn (by omega))
  rw [← hx] at hof
  have hxh := Lib.hid hx
  clear hx
  have d : decide (a ≤ 0) = false := decide_eq_false (by omega)
  have hun := Lib.hid (fun (n : Int) (h0 : 0 ≤ n) (h1' : n ≤ 1099511627776) (X : World) => f_under n a X h0 h1' (by omega) h1)
  go_enter Try.func9, Try.ntmps9
  go_wp2_with fail
  refine hrt.out.mono ?_
  rintro e w' ⟨n, hn, rfl, rfl⟩
  obtain ⟨n0, n1, n2⟩ := hof.out n hn
  have l0 := rt_low n a n0
  have l1 := rt_high n a n1
  have lh := Lib.hid (And.intro l0 l1)
  clear hof hrt n0 n1 l0 l1 hn hxh
  go_wp2_with fail
  go_loop [4, 5] (fun lo hi => ∃ L H : Int, lo = .int .u64 L ∧ hi = .int .u64 H ∧ 0 ≤ L ∧ L < H ∧ H ≤ 1099511627520 ∧ Hid (L * L ≤ a * 65536 ∧ a * 65536 < H * H)) (fun lo hi => (intOf hi - intOf lo).toNat)
  case atStart => exact ⟨_, _, rfl, rfl, by omega, by omega, by omega, lh⟩
  case round =>
    obtain ⟨L, H, rfl, rfl, q0, q1, q2, qh⟩ := hrel
    clear lh
    by_cases hlt : L + 1 < H
    · have m0 : 0 ≤ (L + H) / 2 := by omega
      have m1 : (L + H) / 2 ≤ 1099511627776 := by omega
      have m2 : L < (L + H) / 2 := by omega
      have m3 : (L + H) / 2 < H := by omega
      have ht : (L + H).tdiv 2 = (L + H) / 2 := Int.tdiv_eq_ediv_of_nonneg (by omega)
      have hu := Lib.hid (hun.out ((L + H) / 2) m0 m1 w)
      generalize (L + H) / 2 = M at *
      by_cases hM : M * M ≤ a * 65536
      · have dM : decide (M * M ≤ a * 65536) = true := decide_eq_true hM
        rw [dM] at hu
        have hMh := Lib.hid hM
        clear hM dM
        go_wp2_with fail
        refine hu.out.mono ?_
        rintro e w' ⟨rfl, rfl⟩
        go_wp2_with fail
        go_round
        case rel => exact ⟨M, H, rfl, rfl, by omega, by omega, by omega, hide ⟨hMh.out, qh.out.2⟩⟩
        case measure => simp [intOf]; omega
      · have dM : decide (M * M ≤ a * 65536) = false := decide_eq_false hM
        rw [dM] at hu
        have hMh := Lib.hid hM
        clear hM dM
        go_wp2_with fail
        refine hu.out.mono ?_
        rintro e w' ⟨rfl, rfl⟩
        go_wp2_with fail
        go_round
        case rel => exact ⟨L, M, rfl, rfl, by omega, by omega, by omega, hide ⟨qh.out.1, by have := hMh.out; omega⟩⟩
        case measure => simp [intOf]; omega
    · have hH : H = L + 1 := by omega
      subst hH
      clear hun
      go_wp2_with fail
      go_ret
      exact ⟨L, by omega, by omega, qh.out.1, qh.out.2, rfl, rfl⟩
end Go.Proofs.Ytangfbahljdbhaa

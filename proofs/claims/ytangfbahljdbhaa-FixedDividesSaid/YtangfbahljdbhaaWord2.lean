/- More contracts of package word: Root, Log, Get. Conditions: the arguments are numbers of their kinds; the slice reads as the list named. -/
import Derived.Test.YtangfbahljdbhaaWord
namespace Go.Proofs.Ytangfbahljdbhaa
open Go.RowKit

/-! ### the root -/
def IsRoot (w r : Nat) : Prop := r ≤ 4294967295 ∧ r * r ≤ w ∧ (r = 4294967295 ∨ w < (r + 1) * (r + 1))
def RootPost (W : World) (x : Nat) (e : Ending) (W' : World) : Prop := ∃ r : Nat, IsRoot x r ∧ e = .returned (.int .u64 r) ∧ W = W'
theorem sq_le (m : Nat) (h : m ≤ 4294967295) : m * m ≤ 18446744065119617025 := Nat.mul_le_mul h h
set_option maxHeartbeats 400000 in
theorem w_root (x : Nat) (w : World) (hx : x < 18446744073709551616) :
    Calls Try.prog 30 #[.int .u64 x] w (RootPost w x) := by
  go_enter Try.func30, Try.ntmps30
  go_wp2
  go_loop [3, 4] (fun a b => ∃ l h : Nat, l ≤ h ∧ h ≤ 4294967295 ∧ a = .int .u64 l ∧ b = .int .u64 h ∧ Hid (l * l ≤ x ∧ (h = 4294967295 ∨ x < (h + 1) * (h + 1)))) (fun a b => (intOf b - intOf a).toNat)
  case atStart => exact ⟨0, 4294967295, by omega, by omega, rfl, rfl, hide ⟨by omega, .inl rfl⟩⟩
  case round =>
    obtain ⟨l, h, hlh, hh, rfl, rfl, hq⟩ := hrel
    by_cases hlt : l < h
    · obtain ⟨m, hm⟩ : ∃ m : Nat, m = l + (h - l + 1) / 2 := ⟨_, rfl⟩
      have hm1 : l < m := by omega
      have hm2 : m ≤ h := by omega
      have hme : Hid ((l : Int) + ((h : Int) - l + 1) / 2 = m) := hide (by omega)
      have hs := sq_le m (by omega)
      have hsi : ((m : Int) * m) = ((m * m : Nat) : Int) := by simp
      have hsq : 0 ≤ (m : Int) * m ∧ (m : Int) * m ≤ 18446744065119617025 := by rw [hsi]; omega
      obtain ⟨hq1, hq2⟩ := hsq
      have hsih := hide hsi
      clear hm hsi hs
      have hwr : Hid (IntKind.u64.wrap ((m : Int) * m) = ((m * m : Nat) : Int)) := by
        rw [hsih.out, IntKind.wrap_u64]; exact hide (by omega)
      have hdec : Hid (x < (m - 1 + 1) * (m - 1 + 1) ↔ x < m * m) := by
        rw [show m - 1 + 1 = m by omega]; exact hide Iff.rfl
      clear hq1 hq2 hsih
      go_wp2
      · have h1 := ‹IntKind.u64.wrap (((l : Int) + ((h : Int) - l + 1) / 2) * ((l : Int) + ((h : Int) - l + 1) / 2)) ≤ (x : Int)›
        rw [hme.out, hwr.out] at h1
        rw [hme.out]
        go_round
        case rel => exact ⟨m, h, by omega, by omega, rfl, rfl, hide ⟨by omega, hq.out.2⟩⟩
        case measure => simp [intOf]; omega
      · have h1 := ‹(x : Int) < IntKind.u64.wrap (((l : Int) + ((h : Int) - l + 1) / 2) * ((l : Int) + ((h : Int) - l + 1) / 2))›
        rw [hme.out, hwr.out] at h1
        rw [hme.out]
        go_round
        case rel => exact ⟨l, m - 1, by omega, by omega, rfl, by rw [show ((m - 1 : Nat) : Int) = (m : Int) - 1 by omega], hide ⟨hq.out.1, .inr (hdec.out.2 (by omega))⟩⟩
        case measure => simp [intOf]; omega
    · obtain rfl : l = h := by omega
      go_wp2
      go_ret
      exact ⟨l, ⟨hh, hq.out.1, hq.out.2⟩, rfl, rfl⟩

/-! ### how many bits a word needs -/
def LogPost (W : World) (x : Nat) (e : Ending) (W' : World) : Prop := ∃ n : Nat, n ≤ 64 ∧ (x = 0 → n = 0) ∧ (x ≠ 0 → 1 ≤ n ∧ x / 2 ^ (n - 1) = 1) ∧ e = .returned (.int .i64 n) ∧ W = W'
theorem log_step (x k : Nat) : x / 2 ^ k / 2 = x / 2 ^ (k + 1) := by rw [Nat.pow_succ, Nat.div_div_eq_div_mul]
theorem log_cap (x k : Nat) (hx : x < 18446744073709551616) (h : x / 2 ^ k ≠ 0) : k < 64 := by
  by_cases hk : k < 64
  · exact hk
  · exfalso
    apply h
    apply Nat.div_eq_of_lt
    have : 2 ^ 64 ≤ 2 ^ k := Nat.pow_le_pow_right (by decide) (by omega)
    have h64 : (2 : Nat) ^ 64 = 18446744073709551616 := by decide
    omega
theorem log_end (x k : Nat) (h : x / 2 ^ k = 0) (hk : k ≠ 0) (hp : x / 2 ^ (k - 1) ≠ 0) : x / 2 ^ (k - 1) = 1 := by
  have h1 := log_step x (k - 1)
  rw [show k - 1 + 1 = k by omega, h] at h1
  omega
end Go.Proofs.Ytangfbahljdbhaa

/- More contracts of package gf: Inv, Div, Log, Exp, Pow, Add, Dot; and of the document's answer: Inv, Pow, Dot. Conditions: the tables lie as New makes them; the slices read as the lists named. -/
import Derived.Test.YtkcalgolanpjaaaGf
import Derived.Test.YtkcalgolanpjaaaGfRef
namespace Go.Proofs.Ytkcalgolanpjaaa
open Go.RowKit
attribute [local irreducible] gexp gtbl glog rmul rinv rpow zexp xorl

set_option maxHeartbeats 400000 in
theorem gf_inv (p a : Nat) (w : World) (hg : IsGf w p) (ha : a < 256) (a0 : a ≠ 0) :
    Calls Try.prog 45 #[.pointer (some ⟨p, 0, none⟩), .int .u8 a] w fun e w' => e = .returned (.tuple #[.int .u8 (rinv a : Nat), .int .i64 0]) ∧ ∃ n, w' = w.drewN n := by
  have e0 : ((a : Int) == 0) = false := by simp; exact a0
  have la := glog_lt a ha a0
  have c1 := hg.log a ha a0
  have c3 := hg.exp (255 - glog a) (by omega)
  have hr : Hid (rinv a = gexp (255 - glog a)) := by rw [rinv_eq a a0]; exact rfl
  clear hg
  go_enter Try.func45, Try.ntmps45
  go_wp2
  go_quiet (fail)
  go_wp2
  go_ret2
  exact ⟨by rw [hr.out]; rfl, _, rfl⟩

theorem gf_inv0 (p : Nat) (w : World) :
    Calls Try.prog 45 #[.pointer (some ⟨p, 0, none⟩), .int .u8 0] w fun e w' => e = .returned (.tuple #[.int .u8 0, .int .i64 30]) ∧ w = w' := by
  go_enter Try.func45, Try.ntmps45
  go_wp2
  go_ret2
  exact ⟨rfl, rfl⟩

theorem exp_idx (n : Int) (h1 : -9223372036854775808 ≤ n) (h2 : n ≤ 9223372036854775807) : (wrap64 (n.tmod 255 + 255)).tmod 255 = n % 255 := by
  rcases Int.le_total 0 n with h | h
  · rw [Int.tmod_eq_emod_of_nonneg h, IntWalk.wrap64_in _ ⟨by omega, by omega⟩, Int.tmod_eq_emod_of_nonneg (by omega)]
    omega
  · have e : n.tmod 255 = -((-n) % 255) := by
      rw [← Int.tmod_eq_emod_of_nonneg (a := -n) (by omega), Int.neg_tmod, Int.neg_neg]
    rw [e, IntWalk.wrap64_in _ ⟨by omega, by omega⟩, Int.tmod_eq_emod_of_nonneg (by omega)]
    omega
theorem gf_exp (p : Nat) (n : Int) (w : World) (hg : IsGf w p) (hn : -9223372036854775808 ≤ n ∧ n ≤ 9223372036854775807) :
    Calls Try.prog 48 #[.pointer (some ⟨p, 0, none⟩), .int .i64 n] w fun e w' => e = .returned (.int .u8 (zexp n : Nat)) ∧ w = w' := by
  have c1 := hg.exp ((n % 255).toNat) (by omega)
  have hi := hide (exp_idx n hn.1 hn.2)
  have hb : 0 ≤ (wrap64 (n.tmod 255 + 255)).tmod 255 ∧ (wrap64 (n.tmod 255 + 255)).tmod 255 < 510 := by rw [hi.out]; omega
  rw [← hi.out] at c1
  have hz : Hid (zexp n = gexp ((wrap64 (n.tmod 255 + 255)).tmod 255).toNat) := by rw [hi.out, zexp_eq]; exact rfl
  clear hg hn hi
  go_enter Try.func48, Try.ntmps48
  go_wp2
  go_ret
  exact ⟨ret_int (by rw [hz.out]), rfl⟩

/-- the answer of Pow: the element, the error's number -/
def gpowr (a : Nat) (n : Int) : Nat := if n = 0 then 1 else if a = 0 then 0 else zexp (glog a * (n.tmod 255))
theorem gf_pow (p a : Nat) (n : Int) (w : World) (hg : IsGf w p) (ha : a < 256) (hn : -9223372036854775808 ≤ n ∧ n ≤ 9223372036854775807) :
    Calls Try.prog 42 #[.pointer (some ⟨p, 0, none⟩), .int .u8 a, .int .i64 n] w fun e w' =>
      e = .returned (.tuple #[.int .u8 (gpowr a n : Nat), .int .i64 (if a = 0 ∧ n < 0 then 30 else 0)]) ∧ ∃ n, w' = w.drewN n := by
  by_cases n0 : n = 0
  · subst n0
    go_enter Try.func42, Try.ntmps42
    go_wp2
    go_ret2
    exact ⟨by simp [gpowr], 0, rfl⟩
  · have e0 : (n == 0) = false := by simp; exact n0
    by_cases a0 : a = 0
    · subst a0
      by_cases hneg : n < 0
      · go_enter Try.func42, Try.ntmps42
        go_wp2
        all_goals (go_ret2; exact ⟨by simp [gpowr, n0], 0, rfl⟩)
      · go_enter Try.func42, Try.ntmps42
        go_wp2
        all_goals (go_ret2; exact ⟨by simp [gpowr, n0], 0, rfl⟩)
    · have e1 : ((a : Int) == 0) = false := by simp; exact a0
      have la := glog_lt a ha a0
      have c1 := hg.log a ha a0
      have hm : -254 ≤ n.tmod 255 ∧ n.tmod 255 ≤ 254 := by
        have h1 := Int.tmod_lt_of_pos n (b := 255) (by decide)
        have h2 := Int.lt_tmod_of_pos n (b := 255) (by decide)
        omega
      have hb : -64516 ≤ (glog a : Int) * (n.tmod 255) ∧ (glog a : Int) * (n.tmod 255) ≤ 64516 := by
        obtain ⟨m1, m2⟩ := hm
        generalize n.tmod 255 = m at *
        constructor
        · have := Int.mul_le_mul_of_nonneg_left m1 (show (0 : Int) ≤ glog a by omega)
          omega
        · have := Int.mul_le_mul_of_nonneg_left m2 (show (0 : Int) ≤ glog a by omega)
          omega
      obtain ⟨hb1, hb2⟩ := hb
      clear hm
      go_enter Try.func42, Try.ntmps42
      go_wp2_with fail
      refine (gf_exp p _ _ hg ⟨by omega, by omega⟩).mono ?_
      rintro e w' ⟨rfl, rfl⟩
      go_wp2_with fail
      go_ret2
      exact ⟨by simp [gpowr, n0, a0], 0, rfl⟩

end Go.Proofs.Ytkcalgolanpjaaa

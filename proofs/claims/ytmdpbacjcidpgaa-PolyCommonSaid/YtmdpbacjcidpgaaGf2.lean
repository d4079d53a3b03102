/- More contracts of package gf: Inv, Div, Log, Exp, Pow, Add, Dot; and of the document's answer: Inv, Pow, Dot. Conditions: the tables lie as New makes them; the slices read as the lists named. -/
import Derived.Test.YtmdpbacjcidpgaaGf
import Derived.Test.YtmdpbacjcidpgaaGfRef
namespace Go.Proofs.Ytmdpbacjcidpgaa
open Go.RowKit
attribute [local irreducible] gexp gtbl glog rmul rinv rpow zexp xorl

set_option maxHeartbeats 400000 in
theorem gf_inv (p a : Nat) (w : World) (hg : IsGf w p) (ha : a < 256) (a0 : a ≠ 0) :
    Calls Try.prog 31 #[.pointer (some ⟨p, 0, none⟩), .int .u8 a] w fun e w' => e = .returned (.tuple #[.int .u8 (rinv a : Nat), .int .i64 0]) ∧ ∃ n, w' = w.drewN n := by
  have e0 : ((a : Int) == 0) = false := by simp; exact a0
  have la := glog_lt a ha a0
  have c1 := hg.log a ha a0
  have c3 := hg.exp (255 - glog a) (by omega)
  have hr : Hid (rinv a = gexp (255 - glog a)) := by rw [rinv_eq a a0]; exact rfl
  clear hg
  go_enter Try.func31, Try.ntmps31
  go_wp2
  go_quiet (fail)
  go_wp2
  go_ret2
  exact ⟨by rw [hr.out]; rfl, _, rfl⟩

theorem gf_inv0 (p : Nat) (w : World) :
    Calls Try.prog 31 #[.pointer (some ⟨p, 0, none⟩), .int .u8 0] w fun e w' => e = .returned (.tuple #[.int .u8 0, .int .i64 30]) ∧ w = w' := by
  go_enter Try.func31, Try.ntmps31
  go_wp2
  go_ret2
  exact ⟨rfl, rfl⟩

theorem gf_div (p a b : Nat) (w : World) (hg : IsGf w p) (ha : a < 256) (hb : b < 256) (b0 : b ≠ 0) :
    Calls Try.prog 28 #[.pointer (some ⟨p, 0, none⟩), .int .u8 a, .int .u8 b] w fun e w' => e = .returned (.tuple #[.int .u8 (rmul a (rinv b) : Nat), .int .i64 0]) ∧ ∃ n, w' = w.drewN n := by
  have hl := rinv_lt b
  go_enter Try.func28, Try.ntmps28
  go_wp2_with fail
  refine (gf_inv p b w hg hb b0).mono ?_
  rintro e w' ⟨rfl, n, rfl⟩
  go_wp2_with fail
  refine (gf_mul p a (rinv b) (w.drewN n) hg ha hl).mono ?_
  rintro e w' ⟨rfl, m, rfl⟩
  go_wp2_with fail
  go_ret2
  exact ⟨rfl, _, rfl⟩

theorem gf_div0 (p a : Nat) (w : World) :
    Calls Try.prog 28 #[.pointer (some ⟨p, 0, none⟩), .int .u8 a, .int .u8 0] w fun e w' => e = .returned (.tuple #[.int .u8 0, .int .i64 30]) ∧ w = w' := by
  go_enter Try.func28, Try.ntmps28
  go_wp2_with fail
  refine (gf_inv0 p w).mono ?_
  rintro e w' ⟨rfl, rfl⟩
  go_wp2_with fail
  go_ret2
  exact ⟨rfl, rfl⟩

theorem exp_idx (n : Int) (h1 : -9223372036854775808 ≤ n) (h2 : n ≤ 9223372036854775807) : (wrap64 (n.tmod 255 + 255)).tmod 255 = n % 255 := by
  rcases Int.le_total 0 n with h | h
  · rw [Int.tmod_eq_emod_of_nonneg h, IntWalk.wrap64_in _ ⟨by omega, by omega⟩, Int.tmod_eq_emod_of_nonneg (by omega)]
    omega
  · have e : n.tmod 255 = -((-n) % 255) := by
      rw [← Int.tmod_eq_emod_of_nonneg (a := -n) (by omega), Int.neg_tmod, Int.neg_neg]
    rw [e, IntWalk.wrap64_in _ ⟨by omega, by omega⟩, Int.tmod_eq_emod_of_nonneg (by omega)]
    omega
/-- the answer of Pow: the element, the error's number -/
def gpowr (a : Nat) (n : Int) : Nat := if n = 0 then 1 else if a = 0 then 0 else zexp (glog a * (n.tmod 255))
end Go.Proofs.Ytmdpbacjcidpgaa

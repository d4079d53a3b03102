import Derived.Test.YtmfagdbocidfjaaV01
import Derived.Test.YtmfagdbocidfjaaV02
/- The contracts of package backstayref03 (the document's answer for gf): the product bit by bit, the inverse by trying, the power, the row product. Conditions: none beyond the ranges of bytes. -/
namespace Go.Proofs.Ytmfagdbocidfjaa
open Go.RowKit
attribute [local irreducible] gexp glog rmul mulA redB rpow


set_option maxRecDepth 100000 in
theorem bit_yes {x k : Nat} (h : (((x : Int) / 2 ^ k).tmod 2 == 1) = true) : (x / 2 ^ k) % 2 = 1 := by
  rw [cast_pow, tmod2] at h; simpa using h
set_option maxRecDepth 100000 in
theorem bit_no {x k : Nat} (h : (((x : Int) / 2 ^ k).tmod 2 == 1) = false) : ¬ (x / 2 ^ k) % 2 = 1 := by
  rw [cast_pow, tmod2] at h; simpa using h
set_option maxRecDepth 100000 in
theorem mulA_step (a b k : Nat) (ha : a < 256) (hk : k < 8) (h : (((b : Int) / 2 ^ k).tmod 2 == 1) = true) :
    bits .xor .i64 (mulA a b k : Nat) (wrap64 ((a : Int) * 2 ^ k)) = (mulA a b (k + 1) : Nat) := by
  have h1 := mulA_lt a b k ha (by omega)
  have h2 : a * 2 ^ k < 65536 := by
    have : 2 ^ k ≤ 2 ^ 7 := Nat.pow_le_pow_right (by decide) (by omega)
    calc a * 2 ^ k ≤ a * 2 ^ 7 := Nat.mul_le_mul_left _ this
      _ < 65536 := by omega
  have e : (a : Int) * 2 ^ k = ((a * 2 ^ k : Nat) : Int) := by simp
  rw [e, IntWalk.wrap64_in _ ⟨by omega, by omega⟩, i64_xor_nat _ _ (by omega) (by omega), mulA_yes a b k (bit_yes h)]
set_option maxRecDepth 100000 in
theorem redB_step (n j : Nat) (hn : n < 65536) (hj : j < 7) (h : (redB n j / 2 ^ (14 - j)) % 2 = 1) :
    bits .xor .i64 (redB n j : Nat) (wrap64 (285 * 2 ^ (14 - j - 8))) = (redB n (j + 1) : Nat) := by
  have h1 := redB_lt n j hn
  have h2 : 285 * 2 ^ (6 - j) < 65536 := by
    have : 2 ^ (6 - j) ≤ 2 ^ 6 := Nat.pow_le_pow_right (by decide) (by omega)
    calc 285 * 2 ^ (6 - j) ≤ 285 * 2 ^ 6 := Nat.mul_le_mul_left _ this
      _ < 65536 := by decide
  have e : (285 : Int) * 2 ^ (14 - j - 8) = ((285 * 2 ^ (6 - j) : Nat) : Int) := by
    rw [show 14 - j - 8 = 6 - j by omega]; simp
  rw [e, IntWalk.wrap64_in _ ⟨by omega, by omega⟩, i64_xor_nat _ _ (by omega) (by omega), redB_yes n j h]

end Go.Proofs.Ytmfagdbocidfjaa

/- More contracts of package gf: Inv, Div, Log, Exp, Pow, Add, Dot; and of the document's answer: Inv, Pow, Dot. Conditions: the tables lie as New makes them; the slices read as the lists named. -/
namespace Go.Proofs.Ytmfagdbocidfjaa
open Go.RowKit
attribute [local irreducible] gexp gtbl glog rmul rinv rpow zexp xorl

set_option maxRecDepth 100000 in
set_option maxHeartbeats 400000 in
theorem gf_inv (p a : Nat) (w : World) (hg : IsGf w p) (ha : a < 256) (a0 : a ≠ 0) :
    Calls Try.prog 128 #[.pointer (some ⟨p, 0, none⟩), .int .u8 a] w fun e w' => e = .returned (.tuple #[.int .u8 (rinv a : Nat), .int .i64 0]) ∧ ∃ n, w' = w.drewN n := by
  have e0 : ((a : Int) == 0) = false := by simp; exact a0
  have la := glog_lt a ha a0
  have c1 := hg.log a ha a0
  have c3 := hg.exp (255 - glog a) (by omega)
  have hr : Hid (rinv a = gexp (255 - glog a)) := by rw [rinv_eq a a0]; exact rfl
  clear hg
  go_enter Try.func128, Try.ntmps128
  go_wp2
  go_quiet (fail)
  go_wp2
  go_ret2
  exact ⟨by rw [hr.out]; rfl, _, rfl⟩

set_option maxRecDepth 100000 in
theorem gf_inv0 (p : Nat) (w : World) :
    Calls Try.prog 128 #[.pointer (some ⟨p, 0, none⟩), .int .u8 0] w fun e w' => e = .returned (.tuple #[.int .u8 0, .int .i64 30]) ∧ w = w' := by
  go_enter Try.func128, Try.ntmps128
  go_wp2
  go_ret2
  exact ⟨rfl, rfl⟩

set_option maxRecDepth 100000 in
theorem exp_idx (n : Int) (h1 : -9223372036854775808 ≤ n) (h2 : n ≤ 9223372036854775807) : (wrap64 (n.tmod 255 + 255)).tmod 255 = n % 255 := by
  rcases Int.le_total 0 n with h | h
  · rw [Int.tmod_eq_emod_of_nonneg h, IntWalk.wrap64_in _ ⟨by omega, by omega⟩, Int.tmod_eq_emod_of_nonneg (by omega)]
    omega
  · have e : n.tmod 255 = -((-n) % 255) := by
      rw [← Int.tmod_eq_emod_of_nonneg (a := -n) (by omega), Int.neg_tmod, Int.neg_neg]
    rw [e, IntWalk.wrap64_in _ ⟨by omega, by omega⟩, Int.tmod_eq_emod_of_nonneg (by omega)]
    omega
set_option maxRecDepth 100000 in
theorem gf_exp (p : Nat) (n : Int) (w : World) (hg : IsGf w p) (hn : -9223372036854775808 ≤ n ∧ n ≤ 9223372036854775807) :
    Calls Try.prog 127 #[.pointer (some ⟨p, 0, none⟩), .int .i64 n] w fun e w' => e = .returned (.int .u8 (zexp n : Nat)) ∧ w = w' := by
  have c1 := hg.exp ((n % 255).toNat) (by omega)
  have hi := hide (exp_idx n hn.1 hn.2)
  have hb : 0 ≤ (wrap64 (n.tmod 255 + 255)).tmod 255 ∧ (wrap64 (n.tmod 255 + 255)).tmod 255 < 510 := by rw [hi.out]; omega
  rw [← hi.out] at c1
  have hz : Hid (zexp n = gexp ((wrap64 (n.tmod 255 + 255)).tmod 255).toNat) := by rw [hi.out, zexp_eq]; exact rfl
  clear hg hn hi
  go_enter Try.func127, Try.ntmps127
  go_wp2
  go_ret
  exact ⟨ret_int (by rw [hz.out]), rfl⟩

/-- the answer of Pow: the element, the error's number -/
def gpowr (a : Nat) (n : Int) : Nat := if n = 0 then 1 else if a = 0 then 0 else zexp (glog a * (n.tmod 255))
set_option maxRecDepth 100000 in
theorem gf_pow (p a : Nat) (n : Int) (w : World) (hg : IsGf w p) (ha : a < 256) (hn : -9223372036854775808 ≤ n ∧ n ≤ 9223372036854775807) :
    Calls Try.prog 116 #[.pointer (some ⟨p, 0, none⟩), .int .u8 a, .int .i64 n] w fun e w' =>
      e = .returned (.tuple #[.int .u8 (gpowr a n : Nat), .int .i64 (if a = 0 ∧ n < 0 then 30 else 0)]) ∧ ∃ n, w' = w.drewN n := by
  by_cases n0 : n = 0
  · subst n0
    go_enter Try.func116, Try.ntmps116
    go_wp2
    go_ret2
    exact ⟨by simp [gpowr], 0, rfl⟩
  · have e0 : (n == 0) = false := by simp; exact n0
    by_cases a0 : a = 0
    · subst a0
      by_cases hneg : n < 0
      · go_enter Try.func116, Try.ntmps116
        go_wp2
        all_goals (go_ret2; exact ⟨by simp [gpowr, n0], 0, rfl⟩)
      · go_enter Try.func116, Try.ntmps116
        go_wp2
        all_goals (go_ret2; exact ⟨by simp [gpowr, n0], 0, rfl⟩)
    · have e1 : ((a : Int) == 0) = false := by simp; exact a0
      have la := glog_lt a ha a0
      have c1 := hg.log a ha a0
      have hm : -254 ≤ n.tmod 255 ∧ n.tmod 255 ≤ 254 := by
        have h1 := Int.tmod_lt_of_pos n (b := 255) (by decide)
        have h2 := Int.lt_tmod_of_pos n (b := 255) (by decide)
        omega
      have hb : -64516 ≤ (glog a : Int) * (n.tmod 255) ∧ (glog a : Int) * (n.tmod 255) ≤ 64516 := by
        obtain ⟨m1, m2⟩ := hm
        generalize n.tmod 255 = m at *
        constructor
        · have := Int.mul_le_mul_of_nonneg_left m1 (show (0 : Int) ≤ glog a by omega)
          omega
        · have := Int.mul_le_mul_of_nonneg_left m2 (show (0 : Int) ≤ glog a by omega)
          omega
      obtain ⟨hb1, hb2⟩ := hb
      clear hm
      go_enter Try.func116, Try.ntmps116
      go_wp2_with fail
      refine (gf_exp p _ _ hg ⟨by omega, by omega⟩).mono ?_
      rintro e w' ⟨rfl, rfl⟩
      go_wp2_with fail
      go_ret2
      exact ⟨by simp [gpowr, n0, a0], 0, rfl⟩

end Go.Proofs.Ytmfagdbocidfjaa

/- awake of backstaylaw03: it answers true, and turns nothing that was there. No condition. -/
namespace Go.Proofs.Ytmfagdbocidfjaa
open Go.RowKit
set_option maxRecDepth 100000 in
theorem rinv_two : rinv 2 = 142 := by decide +kernel
set_option maxRecDepth 100000 in
theorem rmul_2_128 : rmul 2 128 = 29 := by decide +kernel
attribute [local irreducible] gexp gtbl glog rmul rinv rpow zexp
set_option maxRecDepth 100000 in
theorem inv_two (p : Nat) (w : World) (hg : IsGf w p) :
    Calls Try.prog 128 #[.pointer (some ⟨p, 0, none⟩), .int .u8 2] w fun e w' => e = .returned (.tuple #[.int .u8 142, .int .i64 0]) ∧ ∃ n, w' = w.drewN n := by
  have h := gf_inv p 2 w hg (by decide) (by decide)
  rw [rinv_two] at h
  exact h
set_option maxRecDepth 100000 in
theorem mul_2_128 (p : Nat) (w : World) (hg : IsGf w p) :
    Calls Try.prog 130 #[.pointer (some ⟨p, 0, none⟩), .int .u8 2, .int .u8 128] w fun e w' => e = .returned (.int .u8 29) ∧ ∃ n, w' = w.drewN n := by
  have h := gf_mul p 2 128 w hg (by decide) (by decide)
  rw [rmul_2_128] at h
  exact h

end Go.Proofs.Ytmfagdbocidfjaa

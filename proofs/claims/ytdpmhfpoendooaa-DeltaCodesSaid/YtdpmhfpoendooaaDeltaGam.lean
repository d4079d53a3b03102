/- The contracts of package delta's Reader: Gamma, Rest. Conditions: its state lies at the pointer. -/
import Derived.Test.YtdpmhfpoendooaaDeltaGet
namespace Go.Proofs.Ytdpmhfpoendooaa
open Go.RowKit
theorem nu_head (β : Nat → Nat) (a k : Nat) : nuF β a (k + 1) = β a * 2 ^ k + nuF β (a + 1) k := by
  induction k with
  | zero => rw [nu_next, nu_zero, nu_zero]; simp
  | succ k ih => rw [nu_next, ih, nu_next, Nat.pow_succ, show a + 1 + k = a + (k + 1) by omega, Nat.mul_add, ← Nat.mul_assoc, Nat.mul_comm 2 (β a), Nat.mul_assoc, Nat.mul_comm 2 (2 ^ k)]; omega
theorem nu_one (β : Nat → Nat) (a : Nat) : nuF β a 1 = β a := by rw [nu_next, nu_zero]; simp
theorem or_head (β : Nat → Nat) (h : Bit β) (a n : Nat) (h1 : β a = 1) (hn : n ≤ 63) : bits .or .u64 (IntKind.u64.wrap ((2 : Int) ^ n)) (nuF β (a + 1) n : Nat) = (nuF β a (n + 1) : Nat) := by
  have hlt := nu_lt β h (a + 1) n
  have h2 : 2 ^ n ≤ 2 ^ 63 := Nat.pow_le_pow_right (by decide) hn
  have e := Nat.two_pow_add_eq_or_of_lt hlt 1
  rw [Nat.mul_one] at e
  have h3 : (2 : Nat) ^ 63 = 9223372036854775808 := by decide
  have h4 : IntKind.u64.wrap ((2 : Int) ^ n) = ((2 ^ n : Nat) : Int) := by
    have h5 : ((2 ^ n : Nat) : Int) = (2 : Int) ^ n := by simp
    rw [← h5, IntKind.wrap_u64]
    generalize (2 ^ n : Nat) = P at *
    omega
  rw [h4, or_u64 _ _ (by omega) (by omega), ← e, nu_head, h1, Nat.one_mul]
theorem RdPost.trans {w w1 w2 : World} {p g c L q1 q2 : Nat} {b1 b2 : Bool} {D : Nat → Nat} {v1 v2 : Value} {e1 e2 : Ending} (h : RdPost w p g c L q1 b1 D v1 e1 w1) (k : RdPost w1 p g c L q2 b2 D v2 e2 w2) : RdPost w p g c L q2 b2 D v2 e2 w2 :=
  ⟨k.1, k.2.1, only_trans h.2.2 k.2.2⟩
theorem clamp_one : clampZ 1 0 64 = ((1 : Nat) : Int) := by decide
attribute [local irreducible] OwnB byF apF bitF putF ctF bsF gmF gmN nbF chF chN enN enB dlF lastF pxF obF nuF
set_option maxHeartbeats 2000000 in
theorem d_gam_yes (p g c L q n : Nat) (D : Nat → Nat) (w : World) (hr : RdAt w p g c L q false D) (hD : ∀ j, D j < 256) (hL : L ≤ 1000000) (hz : ∀ j, j < n → obF D (q + j) = 0) (h1 : obF D (q + n) = 1) (hn : n ≤ 63) (hq : q + 2 * n + 1 ≤ 8 * L) :
    Calls Try.prog 23 #[.pointer (some ⟨p, 0, none⟩)] w (RdPost w p g c L (q + 2 * n + 1) false D (.int .u64 (nuF (obF D) (q + n) (n + 1) : Nat))) := by
  have kg := Lib.hid (fun (j : Nat) W (h : RdAt W p g c L (q + j) false D) (hj : q + j + 1 ≤ 8 * L) => d_get p g c L (q + j) D 1 W h hD hL 1 clamp_one hj)
  have kn := Lib.hid (fun W (h : RdAt W p g c L (q + n + 1) false D) => d_get p g c L (q + n + 1) D (n : Nat) W h hD hL n (clamp_nat n (by omega)) (by omega))
  have hor := or_head (obF D) (fun j => ob_bit D j) (q + n) n h1 hn
  have hone := Lib.hid (fun a => nu_one (obF D) a)
  have hrh := Lib.hid hr
  have hzh := Lib.hid hz
  have h1h := Lib.hid h1
  have hlt := nu_63 (obF D) (fun j => ob_bit D j) (q + n + 1) n (by omega)
  have h2 : 2 ^ n ≤ 2 ^ 63 := Nat.pow_le_pow_right (by decide) hn
  rw [show (2 : Nat) ^ 63 = 9223372036854775808 by decide] at h2
  have hqq : q + n + 1 + n = q + 2 * n + 1 := by omega
  rw [hqq] at kn
  clear hr hD hz h1
  go_enter Try.func23, Try.ntmps23
  go_wp2_with fail
  go_loopw [3] (fun iv wr => ∃ j : Nat, j ≤ n ∧ iv = .int .i64 (j : Nat) ∧ Hid (RdAt wr p g c L (q + j) false D) ∧ Hid (w.grownBy wr (some p))) (fun iv _ => n - (intOf iv).toNat)
  case atStart => exact ⟨0, Nat.zero_le _, rfl, hrh, hide (only_refl _ _)⟩
  case round =>
    obtain ⟨j, hj, rfl, hR, hG⟩ := hrel
    have kg1 := Lib.hid (kg.out j wr hR.out (by omega))
    rw [hone.out] at kg1
    by_cases hjn : j < n
    · rw [hzh.out j hjn] at kg1
      have d1 : decide ((j : Int) ≥ 63) = false := decide_eq_false (by omega)
      go_wp2_with fail
      refine kg1.out.mono ?_
      rintro e w2 ⟨rfl, r2, g2⟩
      have c2 : w2.cell? ⟨p, 2, none⟩ = some (.bool false) := (cell_of_block r2.st).trans rfl
      have r2h := Lib.hid r2
      have g2h := Lib.hid (only_trans hG.out g2)
      clear r2 g2
      go_wp2_with fail
      go_roundw
      case rel => exact ⟨j + 1, by omega, by go_num, r2h, g2h⟩
      case measure => simp [intOf]; omega
    · obtain rfl : j = n := by omega
      rw [h1h.out] at kg1
      go_wp2_with fail
      refine kg1.out.mono ?_
      rintro e w2 ⟨rfl, r2, g2⟩
      have kn1 := Lib.hid (kn.out w2 r2)
      have g2h := Lib.hid (only_trans hG.out g2)
      clear r2 g2
      generalize nuF (obF D) (q + j + 1) j = x at *
      generalize nuF (obF D) (q + j) (j + 1) = y at *
      go_wp2_with fail
      refine kn1.out.mono ?_
      rintro e w3 ⟨rfl, r3, g3⟩
      have c2 : w3.cell? ⟨p, 2, none⟩ = some (.bool false) := (cell_of_block r3.st).trans rfl
      have r3h := Lib.hid r3
      have g3h := Lib.hid (only_trans g2h.out g3)
      clear r3 g3
      go_wp2_with fail
      go_ret
      exact ⟨rfl, r3h.out, g3h.out⟩
def GamNo (w : World) (p g c L : Nat) (D : Nat → Nat) (e : Ending) (w' : World) : Prop := ∃ q', q' ≤ 8 * L ∧ RdPost w p g c L q' true D (.int .u64 0) e w'
set_option maxHeartbeats 2000000 in
theorem d_gam_no (p g c L q n : Nat) (D : Nat → Nat) (w : World) (hr : RdAt w p g c L q false D) (hD : ∀ j, D j < 256) (hL : L ≤ 1000000) (hz : ∀ j, j < n → obF D (q + j) = 0) (hq : q + n ≤ 8 * L)
    (hno : (q + n = 8 * L ∧ n ≤ 63) ∨ n = 64 ∨ (obF D (q + n) = 1 ∧ n ≤ 63 ∧ q + n < 8 * L ∧ 8 * L < q + 2 * n + 1)) :
    Calls Try.prog 23 #[.pointer (some ⟨p, 0, none⟩)] w (GamNo w p g c L D) := by
  have kg := Lib.hid (fun (j : Nat) W (h : RdAt W p g c L (q + j) false D) (hj : q + j + 1 ≤ 8 * L) => d_get p g c L (q + j) D 1 W h hD hL 1 clamp_one hj)
  have kf := Lib.hid (fun W (h : RdAt W p g c L (q + n) false D) (he : q + n = 8 * L) => d_get_no p g c L (q + n) false D 1 W h hL 1 clamp_one hq (.inr (by omega)))
  have kn := Lib.hid (fun W (h : RdAt W p g c L (q + n + 1) false D) (h64 : n ≤ 63) (h0 : q + n + 1 ≤ 8 * L) (h1 : 8 * L < q + 2 * n + 1) => d_get_no p g c L (q + n + 1) false D (n : Nat) W h hL n (clamp_nat n (by omega)) h0 (.inr (by omega)))
  have hone := Lib.hid (fun a => nu_one (obF D) a)
  have hrh := Lib.hid hr
  have hzh := Lib.hid hz
  have hn64 : n ≤ 64 := by omega
  have hnoh := Lib.hid hno
  clear hr hD hz hno
  go_enter Try.func23, Try.ntmps23
  go_wp2_with fail
  go_loopw [3] (fun iv wr => ∃ j : Nat, j ≤ n ∧ j ≤ 63 ∧ iv = .int .i64 (j : Nat) ∧ Hid (RdAt wr p g c L (q + j) false D) ∧ Hid (w.grownBy wr (some p))) (fun iv _ => n - (intOf iv).toNat)
  case atStart => exact ⟨0, Nat.zero_le _, by omega, rfl, hrh, hide (only_refl _ _)⟩
  case round =>
    obtain ⟨j, hj, hj63, rfl, hR, hG⟩ := hrel
    by_cases hjn : j < n
    · have kg1 := Lib.hid (kg.out j wr hR.out (by omega))
      rw [hone.out, hzh.out j hjn] at kg1
      by_cases h63 : j < 63
      · have d1 : decide ((j : Int) ≥ 63) = false := decide_eq_false (by omega)
        go_wp2_with fail
        refine kg1.out.mono ?_
        rintro e w2 ⟨rfl, r2, g2⟩
        have c2 : w2.cell? ⟨p, 2, none⟩ = some (.bool false) := (cell_of_block r2.st).trans rfl
        have r2h := Lib.hid r2
        have g2h := Lib.hid (only_trans hG.out g2)
        clear r2 g2
        go_wp2_with fail
        go_roundw
        case rel => exact ⟨j + 1, by omega, by omega, by go_num, r2h, g2h⟩
        case measure => simp [intOf]; omega
      · have d1 : decide ((j : Int) ≥ 63) = true := decide_eq_true (by omega)
        have hq2 : q + j + 1 ≤ 8 * L := by omega
        go_wp2_with fail
        refine kg1.out.mono ?_
        rintro e w2 ⟨rfl, r2, g2⟩
        have c2 : w2.cell? ⟨p, 2, none⟩ = some (.bool false) := (cell_of_block r2.st).trans rfl
        have f2 : w2.frozen? ⟨p, 2, none⟩ = false := frozen_of_row w2 p 2 _ _ r2.st
        have r2h := Lib.hid r2.setBad
        have g2h := Lib.hid (only_set (only_trans hG.out g2) 2 (.bool true))
        clear r2 g2
        go_wp2_with fail
        go_ret
        exact ⟨q + j + 1, hq2, rfl, r2h.out, g2h.out⟩
    · obtain rfl : j = n := by omega
      rcases hnoh.out with ⟨he, _⟩ | he | ⟨h1, _, h3, h4⟩
      · have kf1 := Lib.hid (kf.out wr hR.out he)
        go_wp2_with fail
        refine kf1.out.mono ?_
        rintro e w2 ⟨rfl, r2, g2⟩
        have c2 : w2.cell? ⟨p, 2, none⟩ = some (.bool true) := (cell_of_block r2.st).trans rfl
        have f2 : w2.frozen? ⟨p, 2, none⟩ = false := frozen_of_row w2 p 2 _ _ r2.st
        have r2h := Lib.hid r2.setBad
        have g2h := Lib.hid (only_set (only_trans hG.out g2) 2 (.bool true))
        clear r2 g2
        go_wp2_with fail
        go_ret
        exact ⟨q + j, hq, rfl, r2h.out, g2h.out⟩
      · omega
      · have kg1 := Lib.hid (kg.out j wr hR.out (by omega))
        rw [hone.out, h1] at kg1
        have hq2 : q + j + 1 ≤ 8 * L := by omega
        go_wp2_with fail
        refine kg1.out.mono ?_
        rintro e w2 ⟨rfl, r2, g2⟩
        have kn1 := Lib.hid (kn.out w2 r2 (by omega) hq2 h4)
        have g2h := Lib.hid (only_trans hG.out g2)
        clear r2 g2
        go_wp2_with fail
        refine kn1.out.mono ?_
        rintro e w3 ⟨rfl, r3, g3⟩
        have c2 : w3.cell? ⟨p, 2, none⟩ = some (.bool true) := (cell_of_block r3.st).trans rfl
        have r3h := Lib.hid r3
        have g3h := Lib.hid (only_trans g2h.out g3)
        clear r3 g3
        go_wp2_with fail
        go_ret
        exact ⟨q + j + 1, hq2, rfl, r3h.out, g3h.out⟩
/-- nothing is left but noughts, less than a byte of them -/
def rsB (D : Nat → Nat) (L q : Nat) : Bool := decide (8 * L < q + 8) && decide (nuF (obF D) q (8 * L - q) = 0)
set_option maxHeartbeats 1000000 in
theorem d_rest_bad (p g c L q : Nat) (D : Nat → Nat) (w : World) (hr : RdAt w p g c L q true D) (hL : L ≤ 1000000) (hq : q ≤ 8 * L) :
    Calls Try.prog 24 #[.pointer (some ⟨p, 0, none⟩)] w (RdPost w p g c L q true D (.bool false)) := by
  have kl := Lib.hid (d_left p g c L q true D w hr hL hq)
  have hrh := Lib.hid hr
  clear hr
  go_enter Try.func24, Try.ntmps24
  go_wp2_with fail
  refine kl.out.mono ?_
  rintro e w1 ⟨rfl, x, rfl⟩
  have c2 : (w.drewN x).cell? ⟨p, 2, none⟩ = some (.bool true) := (cell_of_block hrh.out.st).trans rfl
  have hs := Lib.hid (hrh.out.drewN x)
  have hg := Lib.hid (only_drewN (only_refl w (some p)) x)
  generalize w.drewN x = wd at *
  go_wp2_with fail
  go_ret
  exact ⟨rfl, hs.out, hg.out⟩
set_option maxHeartbeats 1000000 in
theorem d_rest (p g c L q : Nat) (D : Nat → Nat) (w : World) (hr : RdAt w p g c L q false D) (hD : ∀ j, D j < 256) (hL : L ≤ 1000000) (hq : q ≤ 8 * L) :
    Calls Try.prog 24 #[.pointer (some ⟨p, 0, none⟩)] w (fun e w' => e = .returned (.bool (rsB D L q)) ∧ w.grownBy w' (some p)) := by
  have kl := Lib.hid (d_left p g c L q false D w hr hL hq)
  have kg := Lib.hid (fun W (h : RdAt W p g c L q false D) (h8 : 8 * L < q + 8) => d_get p g c L q D ((8 * L - q : Nat) : Int) W h hD hL (8 * L - q) (clamp_nat _ (by omega)) (by omega))
  have hrh := Lib.hid hr
  have hrs : rsB D L q = (decide (8 * L < q + 8) && decide (nuF (obF D) q (8 * L - q) = 0)) := rfl
  have e1 : ((8 * L - q : Nat) : Int) = 8 * (L : Int) - (q : Int) := by omega
  rw [e1] at kg
  clear hr hD
  go_enter Try.func24, Try.ntmps24
  go_wp2_with fail
  refine kl.out.mono ?_
  rintro e w1 ⟨rfl, x, rfl⟩
  have c2 : (w.drewN x).cell? ⟨p, 2, none⟩ = some (.bool false) := (cell_of_block hrh.out.st).trans rfl
  have hs := Lib.hid (hrh.out.drewN x)
  have hg := Lib.hid (only_drewN (only_refl w (some p)) x)
  generalize w.drewN x = wd at *
  by_cases h8 : 8 * L < q + 8
  · have d1 : decide (8 * (L : Int) - (q : Int) < 8) = true := decide_eq_true (by omega)
    rw [decide_eq_true h8, Bool.true_and] at hrs
    have kg1 := Lib.hid (kg.out wd hs.out h8)
    clear hrh kl kg
    generalize nuF (obF D) q (8 * L - q) = y at *
    have hyb : (((y : Nat) : Int) == 0) = rsB D L q := by
      rw [hrs]
      by_cases h : y = 0
      · subst h; rfl
      · rw [beq_nat1 y h]; simp [h]
    obtain ⟨rb, hrb⟩ : ∃ rb, rsB D L q = rb := ⟨_, rfl⟩
    rw [hrb] at hyb
    have hrbh := Lib.hid hrb
    clear hrs hrb
    go_wp2_with fail
    refine kg1.out.mono ?_
    rintro e w2 ⟨rfl, _, g2⟩
    have g3h := Lib.hid (only_trans hg.out g2)
    clear g2
    go_wp2_with fail
    go_ret
    rw [hrbh.out]
    exact ⟨rfl, g3h.out⟩
  · have d1 : decide (8 * (L : Int) - (q : Int) < 8) = false := decide_eq_false (by omega)
    rw [decide_eq_false h8, Bool.false_and] at hrs
    go_wp2_with fail
    go_ret
    rw [hrs]
    exact ⟨rfl, hg.out⟩
end Go.Proofs.Ytdpmhfpoendooaa

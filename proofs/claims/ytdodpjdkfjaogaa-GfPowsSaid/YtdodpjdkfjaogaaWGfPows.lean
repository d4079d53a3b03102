/- The walk of the law GfPows: it answers true for every byte and every number. -/
import Derived.Test.YtdodpjdkfjaogaaGfAwake
namespace Go.Proofs.Ytdodpjdkfjaogaa
open Go.RowKit
/-- n modulo 255, from 0 on -/
def nm (n : Int) : Nat := (n % 255).toNat
theorem nm_lt (n : Int) : nm n < 255 := by unfold nm; omega
theorem nm_eq (n : Int) : (nm n : Int) = n % 255 := by unfold nm; omega
theorem tmod_nonneg (n : Int) (h : 0 ≤ n.tmod 255) : n.tmod 255 = nm n := by
  rw [nm_eq]
  rcases Int.le_total 0 n with h0 | h0
  · exact Int.tmod_eq_emod_of_nonneg h0
  · have e : n.tmod 255 = -((-n) % 255) := by
      rw [← Int.tmod_eq_emod_of_nonneg (a := -n) (by omega), Int.neg_tmod, Int.neg_neg]
    omega
theorem tmod_neg (n : Int) (h : n.tmod 255 < 0) : n.tmod 255 + 255 = nm n := by
  rw [nm_eq]
  rcases Int.le_total 0 n with h0 | h0
  · rw [Int.tmod_eq_emod_of_nonneg h0] at h ⊢; omega
  · have e : n.tmod 255 = -((-n) % 255) := by
      rw [← Int.tmod_eq_emod_of_nonneg (a := -n) (by omega), Int.neg_tmod, Int.neg_neg]
    omega
theorem tmod_bd (n : Int) : -254 ≤ n.tmod 255 ∧ n.tmod 255 ≤ 254 := by
  have h1 := Int.tmod_lt_of_pos n (b := 255) (by decide)
  have h2 := Int.lt_tmod_of_pos n (b := 255) (by decide)
  omega
theorem gpowr_eq (a : Nat) (n : Int) (ha : a < 256) (a0 : a ≠ 0) : gpowr a n = rpow a (nm n) := by
  unfold gpowr
  by_cases n0 : n = 0
  · subst n0; rfl
  · rw [if_neg n0, if_neg a0, rpow_log a _ ha a0, zexp_eq, ← gexp_mod (glog a * nm n)]
    congr 1
    have hc : ((glog a : Int) * n.tmod 255) % 255 = ((glog a * nm n : Nat) : Int) % 255 := by
      rw [Int.natCast_mul, nm_eq]
      by_cases h : 0 ≤ n.tmod 255
      · rw [tmod_nonneg n h, nm_eq]
      · have h2 := tmod_neg n (by omega)
        rw [nm_eq] at h2
        rw [show n.tmod 255 = n % 255 - 255 by omega, Int.mul_sub]
        omega
    rw [hc]; omega
theorem zexp_rpow (n : Int) : zexp n = rpow 2 (nm n) := by
  have h : (2 : Nat) = gexp 1 := by decide
  rw [h, rpow_gexp, Nat.one_mul]; rfl
theorem gpowr_zero (n : Int) (h : n ≠ 0) : gpowr 0 n = 0 := by unfold gpowr; rw [if_neg h]; rfl
theorem gpowr_zero_zero : gpowr 0 0 = 1 := rfl
theorem ref_pow2 (n : Nat) (w : World) (hn : n ≤ 9223372036854775807) :
    Calls Try.prog 20 #[.int .u8 2, .int .i64 n] w fun e w' => e = .returned (.int .u8 (rpow 2 n : Nat)) ∧ w = w' := ref_pow 2 n w (by decide) hn
theorem gf_pow0 (p : Nat) (n : Int) (w : World) (hg : IsGf w p) (hn : -9223372036854775808 ≤ n ∧ n ≤ 9223372036854775807) (x : Nat) (c : Int) (hx : gpowr 0 n = x) (hc : (if n < 0 then (30 : Int) else 0) = c) :
    Calls Try.prog 19 #[.pointer (some ⟨p, 0, none⟩), .int .u8 0, .int .i64 n] w fun e w' =>
      e = .returned (.tuple #[.int .u8 x, .int .i64 c]) ∧ ∃ n, w' = w.drewN n := by
  have h := gf_pow p 0 n w hg (by decide) hn
  rw [hx] at h
  simp only [true_and] at h
  rw [hc] at h
  exact h
theorem gf_pow1 (p a : Nat) (n : Int) (w : World) (hg : IsGf w p) (ha : a < 256) (a0 : a ≠ 0) (hn : -9223372036854775808 ≤ n ∧ n ≤ 9223372036854775807) :
    Calls Try.prog 19 #[.pointer (some ⟨p, 0, none⟩), .int .u8 a, .int .i64 n] w fun e w' =>
      e = .returned (.tuple #[.int .u8 (rpow a (nm n) : Nat), .int .i64 0]) ∧ ∃ n, w' = w.drewN n := by
  have h := gf_pow p a n w hg ha hn
  rw [gpowr_eq a n ha a0, if_neg (fun h => a0 h.1)] at h
  exact h
theorem gf_exp1 (p : Nat) (n : Int) (w : World) (hg : IsGf w p) (hn : -9223372036854775808 ≤ n ∧ n ≤ 9223372036854775807) :
    Calls Try.prog 17 #[.pointer (some ⟨p, 0, none⟩), .int .i64 n] w fun e w' => e = .returned (.int .u8 (rpow 2 (nm n) : Nat)) ∧ w = w' := by
  rw [← zexp_rpow]; exact gf_exp p n w hg hn
attribute [local irreducible] gexp gtbl glog rmul rinv rpow zexp nm gpowr
set_option maxRecDepth 100000 in
set_option maxHeartbeats 400000 in
theorem gfPows_walk (a0 : Int) (n : Int) (w : World) (w0 : (Lit.int .u8 a0).wf = true) (w1 : (Lit.int .i64 n).wf = true) :
    Calls Try.prog 7 #[.int .u8 a0, .int .i64 n] w fun e w' => e = .returned (.bool true) ∧ Below w.heap.size w w' := by
  obtain ⟨a, rfl, ha⟩ := u8_nat w0
  obtain ⟨n1, n2⟩ := i64_bd w1
  clear w0 w1
  by_cases a0 : a = 0
  · subst a0
    by_cases n0 : n = 0
    · subst n0
      go_enter Try.func7, Try.ntmps7
      go_wp2_with fail
      refine (gf_awake w).mono ?_
      rintro e w1 ⟨rfl, hb1⟩
      go_wp2_with fail
      refine (gf_new w1).mono ?_
      rintro e w' ⟨rfl, k, rfl⟩
      go_wp2_with fail
      refine (gf_pow0 _ 0 _ (IsGf.made w1 _) ⟨by decide, by decide⟩ 1 0 gpowr_zero_zero rfl).mono ?_
      rintro e w' ⟨rfl, m, rfl⟩
      go_wp2_with fail
      go_ret
      exact ⟨rfl, below_drewN ((hb1.alloc hb1.size _)) _⟩
    · have e0 : (n == 0) = false := by simp; exact n0
      by_cases hneg : n < 0
      · go_enter Try.func7, Try.ntmps7
        go_wp2_with fail
        refine (gf_awake w).mono ?_
        rintro e w1 ⟨rfl, hb1⟩
        go_wp2_with fail
        refine (gf_new w1).mono ?_
        rintro e w' ⟨rfl, k, rfl⟩
        go_wp2_with fail
        refine (gf_pow0 _ n _ (IsGf.made w1 _) ⟨n1, n2⟩ 0 30 (gpowr_zero n n0) (if_pos (by omega))).mono ?_
        rintro e w' ⟨rfl, m, rfl⟩
        go_wp2_with fail
        go_ret
        exact ⟨rfl, below_drewN ((hb1.alloc hb1.size _)) _⟩
      · go_enter Try.func7, Try.ntmps7
        go_wp2_with fail
        refine (gf_awake w).mono ?_
        rintro e w1 ⟨rfl, hb1⟩
        go_wp2_with fail
        refine (gf_new w1).mono ?_
        rintro e w' ⟨rfl, k, rfl⟩
        go_wp2_with fail
        refine (gf_pow0 _ n _ (IsGf.made w1 _) ⟨n1, n2⟩ 0 0 (gpowr_zero n n0) (if_neg (by omega))).mono ?_
        rintro e w' ⟨rfl, m, rfl⟩
        go_wp2_with fail
        go_ret
        exact ⟨rfl, below_drewN ((hb1.alloc hb1.size _)) _⟩
  · have e0 : ((a : Int) == 0) = false := by simp; exact a0
    have hl := nm_lt n
    obtain ⟨t1, t2⟩ := tmod_bd n
    have hn := Lib.hid (tmod_neg n)
    have hp := Lib.hid (tmod_nonneg n)
    by_cases hneg : n.tmod 255 < 0
    · go_enter Try.func7, Try.ntmps7
      go_wp2_with fail
      refine (gf_awake w).mono ?_
      rintro e w1 ⟨rfl, hb1⟩
      go_wp2_with fail
      refine (gf_new w1).mono ?_
      rintro e w' ⟨rfl, k, rfl⟩
      go_wp2_with fail
      refine (gf_pow1 _ a n _ (IsGf.made w1 _) ha a0 ⟨n1, n2⟩).mono ?_
      rintro e w' ⟨rfl, m, rfl⟩
      go_wp2_with fail
      rw [hn.out hneg]
      refine (ref_pow a (nm n) _ ha (by omega)).mono ?_
      rintro e w' ⟨rfl, rfl⟩
      go_wp2_with fail
      refine (gf_exp1 _ n _ (IsGf.made w1 _) ⟨n1, n2⟩).mono ?_
      rintro e w' ⟨rfl, rfl⟩
      go_wp2_with fail
      refine (ref_pow2 (nm n) _ (by omega)).mono ?_
      rintro e w' ⟨rfl, rfl⟩
      go_wp2_with fail
      go_ret
      exact ⟨ret_bool (by simp), below_drewN ((hb1.alloc hb1.size _)) _⟩
    · go_enter Try.func7, Try.ntmps7
      go_wp2_with fail
      refine (gf_awake w).mono ?_
      rintro e w1 ⟨rfl, hb1⟩
      go_wp2_with fail
      refine (gf_new w1).mono ?_
      rintro e w' ⟨rfl, k, rfl⟩
      go_wp2_with fail
      refine (gf_pow1 _ a n _ (IsGf.made w1 _) ha a0 ⟨n1, n2⟩).mono ?_
      rintro e w' ⟨rfl, m, rfl⟩
      go_wp2_with fail
      rw [hp.out (by omega)]
      refine (ref_pow a (nm n) _ ha (by omega)).mono ?_
      rintro e w' ⟨rfl, rfl⟩
      go_wp2_with fail
      refine (gf_exp1 _ n _ (IsGf.made w1 _) ⟨n1, n2⟩).mono ?_
      rintro e w' ⟨rfl, rfl⟩
      go_wp2_with fail
      refine (ref_pow2 (nm n) _ (by omega)).mono ?_
      rintro e w' ⟨rfl, rfl⟩
      go_wp2_with fail
      go_ret
      exact ⟨ret_bool (by simp), below_drewN ((hb1.alloc hb1.size _)) _⟩
end Go.Proofs.Ytdodpjdkfjaogaa

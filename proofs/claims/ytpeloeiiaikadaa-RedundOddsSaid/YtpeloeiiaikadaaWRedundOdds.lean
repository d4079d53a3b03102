/- The walk of the law RedundOdds: it answers true for all numbers. -/
import Derived.Test.YtpeloeiiaikadaaOdds
namespace Go.Proofs.Ytpeloeiiaikadaa
open Go.RowKit
theorem s_odds (a b c : Int) (w : World) (ha : I64 a) :
    Calls Try.prog 13 #[.int .i64 a, .int .i64 b, .int .i64 c] w (ValPost w (.int .i64 (odZ a b c))) := by
  unfold odZ
  by_cases h : a < 0 ∨ 32 < a ∨ a < b
  · rw [if_pos h]
    exact (s_odds_no a b c w h).mono fun e w' ⟨h1, h2⟩ => ⟨h1, h2 ▸ Below.refl _ _⟩
  · rw [if_neg h]
    obtain ⟨sh, rfl⟩ : ∃ sh : Nat, a = sh := ⟨a.toNat, by omega⟩
    exact s_odds_yes sh b c w (by omega) (by omega)
theorem r_odds (a b c : Int) (w : World) (ha : I64 a) :
    Calls Try.prog 14 #[.int .i64 a, .int .i64 b, .int .i64 c] w (ValPost w (.int .i64 (odZ a b c))) := by
  unfold odZ
  have hl := clampZ_bd c 0 65536 (by omega)
  by_cases h : a < 0 ∨ 32 < a ∨ a < b
  · rw [if_pos h]
    exact (r_odds_no a b c w h).mono fun e w' ⟨h1, h2⟩ => ⟨h1, h2 ▸ Below.refl _ _⟩
  · rw [if_neg h]
    obtain ⟨sh, rfl⟩ : ∃ sh : Nat, a = sh := ⟨a.toNat, by omega⟩
    have e : sumF (fromF b (odF (clampZ c 0 65536) (sh : Int).toNat)) ((sh : Int).toNat + 2) = sumF (fromF b (odF (clampZ c 0 65536) sh)) 34 := by
      rw [Int.toNat_natCast]
      have h1 := from_more b (odF (clampZ c 0 65536) sh) sh (fun i hi => od_out _ _ i hi) 1
      have h2 := from_more b (odF (clampZ c 0 65536) sh) sh (fun i hi => od_out _ _ i hi) (33 - sh)
      rw [show sh + 1 + (33 - sh) = 34 by omega] at h2
      rw [h2]; exact h1
    rw [e]
    exact r_odds_yes sh b c w (by omega) (by omega)
attribute [local irreducible] odZ
set_option maxHeartbeats 1000000 in
theorem redundOdds_walk (a0 : Int) (a1 : Int) (a2 : Int) (w : World) (w0 : (Lit.int .i64 a0).wf = true) (w1 : (Lit.int .i64 a1).wf = true) (w2 : (Lit.int .i64 a2).wf = true) :
    Calls Try.prog 6 #[.int .i64 a0, .int .i64 a1, .int .i64 a2] w fun e w' => e = .returned (.bool true) ∧ Below w.heap.size w w' := by
  have b0 := i64_bd w0
  obtain ⟨t0, t1⟩ := odZ_bd a0 a1 a2
  have hm := odZ_less a0 a1 a2
  have k1 := Lib.hid (fun W => s_odds a0 a1 a2 W b0)
  have k2 := Lib.hid (fun W => r_odds a0 a1 a2 W b0)
  have k3 := Lib.hid (fun W => s_odds a0 (a1 + 1) a2 W b0)
  generalize odZ a0 a1 a2 = t at *
  generalize odZ a0 (a1 + 1) a2 = t' at *
  clear w0 w1 w2 b0
  have d0 : decide (t < 0) = false := decide_eq_false (by omega)
  have d1 : decide (65536 < t) = false := decide_eq_false (by omega)
  by_cases h0 : a1 < 0
  · have d2 : decide (a1 < 0) = true := decide_eq_true h0
    go_enter Try.func6, Try.ntmps6
    go_wp2_with fail
    refine (rd_awake w).mono ?_
    rintro e w1 ⟨rfl, hb1⟩
    go_wp2_with fail
    refine (k1.out _).mono ?_
    rintro e w2 ⟨rfl, hb2⟩
    have hB2 := hb1.trans (hb2.mono hb1.size)
    clear hb1 hb2
    go_wp2_with fail
    refine (k2.out _).mono ?_
    rintro e w3 ⟨rfl, hb3⟩
    have hB3 := hB2.trans (hb3.mono hB2.size)
    clear hB2 hb3
    go_wp2_with fail
    go_ret
    exact ⟨rfl, hB3⟩
  have d2 : decide (a1 < 0) = false := decide_eq_false h0
  by_cases h1 : 40 < a1
  · have d3 : decide (40 < a1) = true := decide_eq_true h1
    go_enter Try.func6, Try.ntmps6
    go_wp2_with fail
    refine (rd_awake w).mono ?_
    rintro e w1 ⟨rfl, hb1⟩
    go_wp2_with fail
    refine (k1.out _).mono ?_
    rintro e w2 ⟨rfl, hb2⟩
    have hB2 := hb1.trans (hb2.mono hb1.size)
    clear hb1 hb2
    go_wp2_with fail
    refine (k2.out _).mono ?_
    rintro e w3 ⟨rfl, hb3⟩
    have hB3 := hB2.trans (hb3.mono hB2.size)
    clear hB2 hb3
    go_wp2_with fail
    go_ret
    exact ⟨rfl, hB3⟩
  have d3 : decide (40 < a1) = false := decide_eq_false h1
  have d4 : decide (t' ≤ t) = true := decide_eq_true hm
  go_enter Try.func6, Try.ntmps6
  go_wp2_with fail
  refine (rd_awake w).mono ?_
  rintro e w1 ⟨rfl, hb1⟩
  go_wp2_with fail
  refine (k1.out _).mono ?_
  rintro e w2 ⟨rfl, hb2⟩
  have hB2 := hb1.trans (hb2.mono hb1.size)
  clear hb1 hb2
  go_wp2_with fail
  refine (k2.out _).mono ?_
  rintro e w3 ⟨rfl, hb3⟩
  have hB3 := hB2.trans (hb3.mono hB2.size)
  clear hB2 hb3
  go_wp2_with fail
  refine (k3.out _).mono ?_
  rintro e w4 ⟨rfl, hb4⟩
  have hB4 := hB3.trans (hb4.mono hB3.size)
  clear hB3 hb4
  go_wp2_with fail
  go_ret
  exact ⟨rfl, hB4⟩
end Go.Proofs.Ytpeloeiiaikadaa

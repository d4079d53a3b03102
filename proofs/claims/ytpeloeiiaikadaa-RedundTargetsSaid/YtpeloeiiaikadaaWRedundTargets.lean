/- The walk of the law RedundTargets: it answers true for all numbers. -/
import Derived.Test.YtpeloeiiaikadaaRedund3
namespace Go.Proofs.Ytpeloeiiaikadaa
open Go.RowKit
attribute [local irreducible] tgZ
set_option maxHeartbeats 1000000 in
theorem redundTargets_walk (a0 : Int) (a1 : Int) (a2 : Int) (w : World) (w0 : (Lit.int .i64 a0).wf = true) (w1 : (Lit.int .i64 a1).wf = true) (w2 : (Lit.int .i64 a2).wf = true) :
    Calls Try.prog 3 #[.int .i64 a0, .int .i64 a1, .int .i64 a2] w fun e w' => e = .returned (.bool true) ∧ Below w.heap.size w w' := by
  have b1 := i64_bd w1
  obtain ⟨t0, t1⟩ := tgZ_bd a0 a1 a2
  have k1 := Lib.hid (fun W => s_target a0 a1 a2 W)
  have k2 := Lib.hid (fun W => r_target a0 a1 a2 W)
  have k3 := Lib.hid (fun W => s_target a0 (a1 + 1) a2 W)
  have hm := Lib.hid (fun h0 h1 => tgZ_more a0 a1 a2 h0 h1)
  generalize tgZ a0 a1 a2 = t at *
  generalize tgZ a0 (a1 + 1) a2 = t' at *
  clear w0 w1 w2
  have t2 : t ≤ if a2 < 0 then 0 else a2 := by split <;> omega
  have t3 : ¬ a2 < 0 → t ≤ a2 := fun h => by rw [if_neg h] at t2; exact t2
  have t4 : a2 < 0 → t ≤ 0 := fun h => by rw [if_pos h] at t2; exact t2
  clear t2 t1
  by_cases hn : a2 < 0
  all_goals
    first | (have t5 := t3 hn; clear t3 t4) | (have t5 := t4 hn; clear t3 t4)
    by_cases hc : 0 ≤ a1 ∧ a1 ≤ 65534
    · obtain ⟨h0, h1⟩ := hc
      have h2 := hm.out h0 h1
      have d1 : decide (a1 < 0) = false := decide_eq_false (by omega)
      have d2 : decide (65534 < a1) = false := decide_eq_false (by omega)
      go_enter Try.func3, Try.ntmps3
      go_wp2_with fail
      refine (rd_awake w).mono ?_
      rintro e w1 ⟨rfl, hb1⟩
      go_wp2_with fail
      refine (k1.out _).mono ?_
      rintro e w2 ⟨rfl, hb2⟩
      have hB2 := hb1.trans (hb2.mono hb1.size)
      clear hb1 hb2
      go_wp2_with fail
      refine (k2.out _).mono ?_
      rintro e w3 ⟨rfl, hb3⟩
      have hB3 := hB2.trans (hb3.mono hB2.size)
      clear hB2 hb3
      go_wp2_with fail
      refine (k3.out _).mono ?_
      rintro e w4 ⟨rfl, hb4⟩
      have hB4 := hB3.trans (hb4.mono hB3.size)
      clear hB3 hb4
      go_wp2_with fail
      go_ret
      exact ⟨rfl, hB4⟩
    · by_cases h0 : a1 < 0
      · have d1 : decide (a1 < 0) = true := decide_eq_true h0
        clear hc
        go_enter Try.func3, Try.ntmps3
        go_wp2_with fail
        refine (rd_awake w).mono ?_
        rintro e w1 ⟨rfl, hb1⟩
        go_wp2_with fail
        refine (k1.out _).mono ?_
        rintro e w2 ⟨rfl, hb2⟩
        have hB2 := hb1.trans (hb2.mono hb1.size)
        clear hb1 hb2
        go_wp2_with fail
        refine (k2.out _).mono ?_
        rintro e w3 ⟨rfl, hb3⟩
        have hB3 := hB2.trans (hb3.mono hB2.size)
        clear hB2 hb3
        go_wp2_with fail
        go_ret
        exact ⟨rfl, hB3⟩
      · have d1 : decide (a1 < 0) = false := decide_eq_false h0
        have d2 : decide (65534 < a1) = true := decide_eq_true (by omega)
        clear hc
        go_enter Try.func3, Try.ntmps3
        go_wp2_with fail
        refine (rd_awake w).mono ?_
        rintro e w1 ⟨rfl, hb1⟩
        go_wp2_with fail
        refine (k1.out _).mono ?_
        rintro e w2 ⟨rfl, hb2⟩
        have hB2 := hb1.trans (hb2.mono hb1.size)
        clear hb1 hb2
        go_wp2_with fail
        refine (k2.out _).mono ?_
        rintro e w3 ⟨rfl, hb3⟩
        have hB3 := hB2.trans (hb3.mono hB2.size)
        clear hB2 hb3
        go_wp2_with fail
        go_ret
        exact ⟨rfl, hB3⟩
end Go.Proofs.Ytpeloeiiaikadaa

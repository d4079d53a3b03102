/- The walk of the law FixedRoots: it answers true for every number. -/
import Derived.Test.YtangfbahljdbhaaFixed2
import Derived.Test.YtangfbahljdbhaaFixed5
namespace Go.Proofs.Ytangfbahljdbhaa
open Go.RowKit
set_option maxRecDepth 100000 in
set_option maxHeartbeats 1000000 in
theorem fixedRoots_walk (a0 : Int) (w : World) (w0 : (Lit.int .i64 a0).wf = true) :
    Calls Try.prog 3 #[.int .i64 a0] w fun e w' => e = .returned (.bool true) ∧ Below w.heap.size w w' := by
  obtain ⟨b0, b1⟩ := i64_bd w0
  have ha := Lib.hid (fx_awake w)
  by_cases h : a0 ≤ 0
  · have d : decide (a0 ≤ 0) = true := decide_eq_true h
    have k1 := Lib.hid (f_root_no a0 w h)
    go_enter Try.func3, Try.ntmps3
    go_wp2_with fail
    refine ha.out.mono ?_
    rintro e w' ⟨rfl, rfl⟩
    go_wp2_with fail
    refine k1.out.mono ?_
    rintro e w' ⟨rfl, rfl⟩
    go_wp2_with fail
    go_ret
    exact ⟨rfl, Below.refl _ _⟩
  · have d : decide (a0 ≤ 0) = false := decide_eq_false h
    have k1 := Lib.hid (f_root a0 w (by omega) b1)
    have hI : Hid (I64 a0) := ⟨b0, b1⟩
    clear w0 b0 b1 h
    go_enter Try.func3, Try.ntmps3
    go_wp2_with fail
    refine ha.out.mono ?_
    rintro e w' ⟨rfl, rfl⟩
    go_wp2_with fail
    refine k1.out.mono ?_
    rintro e w' ⟨r, r0, r1, r2, r3, rfl, rfl⟩
    have k2 := fun X => rf_above r r a0 65536 X ⟨by omega, by omega⟩ ⟨by omega, by omega⟩ hI.out ⟨by decide, by decide⟩
    have k3 := fun X => rf_above (r + 1) (r + 1) a0 65536 X ⟨by omega, by omega⟩ ⟨by omega, by omega⟩ hI.out ⟨by decide, by decide⟩
    rw [decide_eq_false (by omega : ¬ a0 * 65536 < r * r)] at k2
    rw [decide_eq_true r3] at k3
    have k2 := Lib.hid k2
    have k3 := Lib.hid k3
    have d1 : decide (r ≥ 0) = true := decide_eq_true r0
    have d2 : decide (r < 1099511627776) = true := decide_eq_true r1
    clear r2 r3 k1 hI
    go_wp2_with fail
    refine (k2.out _).mono ?_
    rintro e w1 ⟨rfl, hB1⟩
    go_wp2_with fail
    refine (k3.out _).mono ?_
    rintro e w2 ⟨rfl, hB2⟩
    go_wp2_with fail
    go_ret
    exact ⟨rfl, hB1.trans (hB2.mono hB1.size)⟩
end Go.Proofs.Ytangfbahljdbhaa

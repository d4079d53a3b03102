/- The walk of the law FixedMuls: it answers true for every two numbers and every whole one. -/
import Derived.Test.YtangfbahljdbhaaFixed3
import Derived.Test.YtangfbahljdbhaaWordRef
namespace Go.Proofs.Ytangfbahljdbhaa
open Go.RowKit
attribute [local irreducible] satZ floorZ restZ fmulZ
set_option maxRecDepth 100000 in
theorem f_whole (a : Int) (w : World) (ha : I64 a) : Calls Try.prog 14 #[.int .i64 a] w fun e w' => e = .returned (.int .i64 (floorZ a 65536)) ∧ w = w' := by
  have hs := Lib.hid (w_floor a 65536 w ha ⟨by decide, by decide⟩)
  go_enter Try.func14, Try.ntmps14
  go_wp2_with fail
  refine hs.out.mono ?_
  rintro e w' ⟨rfl, rfl⟩
  go_wp2_with fail
  go_ret
  exact ⟨rfl, rfl⟩
set_option maxRecDepth 100000 in
theorem f_part (a : Int) (w : World) (ha : I64 a) : Calls Try.prog 15 #[.int .i64 a] w fun e w' => e = .returned (.int .i64 (restZ a 65536)) ∧ w = w' := by
  have hs := Lib.hid (w_rest a 65536 w ha ⟨by decide, by decide⟩)
  go_enter Try.func15, Try.ntmps15
  go_wp2_with fail
  refine hs.out.mono ?_
  rintro e w' ⟨rfl, rfl⟩
  go_wp2_with fail
  go_ret
  exact ⟨rfl, rfl⟩
set_option maxRecDepth 100000 in
set_option maxHeartbeats 1000000 in
theorem fixedMuls_walk (a0 : Int) (a1 : Int) (a2 : Int) (w : World) (w0 : (Lit.int .i64 a0).wf = true) (w1 : (Lit.int .i64 a1).wf = true) (w2 : (Lit.int .i64 a2).wf = true) :
    Calls Try.prog 5 #[.int .i64 a0, .int .i64 a1, .int .i64 a2] w fun e w' => e = .returned (.bool true) ∧ Below w.heap.size w w' := by
  have b0 := i64_bd w0
  have b1 := i64_bd w1
  have b2 := i64_bd w2
  have b6 : I64 65536 := ⟨by decide, by decide⟩
  have k0 := Lib.hid (fx_awake w)
  have k1 := Lib.hid (f_whole a0 w b0)
  have k2 := Lib.hid (f_part a0 w b0)
  have k3 := Lib.hid (f_mul a0 a1 w b0 b1)
  have k4 := Lib.hid (rf_mul a0 a1 w b0 b1)
  have k5 := Lib.hid (fun X => f_of a2 X b2)
  have k6 := Lib.hid (fun X => r_mul a2 65536 X b2 b6)
  have k7 := Lib.hid (fun X => r_floor a0 65536 X b0 b6)
  have k8 := Lib.hid (fun X => r_rest a0 65536 X b6)
  clear w0 w1 w2 b0 b1 b2 b6
  generalize floorZ a0 65536 = q at *
  generalize restZ a0 65536 = r at *
  generalize fmulZ (a0 * a1) = m at *
  generalize satZ (a2 * 65536) = o at *
  go_enter Try.func5, Try.ntmps5
  go_wp2_with fail
  refine k0.out.mono ?_
  rintro e w' ⟨rfl, rfl⟩
  go_wp2_with fail
  refine k1.out.mono ?_
  rintro e w' ⟨rfl, rfl⟩
  go_wp2_with fail
  refine k2.out.mono ?_
  rintro e w' ⟨rfl, rfl⟩
  go_wp2_with fail
  refine k3.out.mono ?_
  rintro e w' ⟨rfl, rfl⟩
  go_wp2_with fail
  refine k4.out.mono ?_
  rintro e w1 ⟨rfl, hB1⟩
  go_wp2_with fail
  refine (k5.out _).mono ?_
  rintro e w' ⟨rfl, rfl⟩
  go_wp2_with fail
  refine (k6.out _).mono ?_
  rintro e w2 ⟨rfl, hB2⟩
  go_wp2_with fail
  refine (k7.out _).mono ?_
  rintro e w' ⟨rfl, rfl⟩
  go_wp2_with fail
  refine (k8.out _).mono ?_
  rintro e w' ⟨rfl, rfl⟩
  go_wp2_with fail
  go_ret
  exact ⟨rfl, hB1.trans (hB2.mono hB1.size)⟩
end Go.Proofs.Ytangfbahljdbhaa

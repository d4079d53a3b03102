/- The contracts of package stats' Wait, Score, Better, Need, of the document's Trip, Wait, Score, Need, and of the law's Same. Conditions: the state's numbers are as small as marks and trips leave them. -/
import Derived.Test.YtpeloeiiaikadaaStats2
namespace Go.Proofs.Ytpeloeiiaikadaa
open Go.RowKit
attribute [local irreducible] twZ tick8 clampZ floorZ satZ
theorem clampZ_in (n lo hi : Int) (h1 : lo ≤ n) (h2 : n ≤ hi) : clampZ n lo hi = n := by unfold clampZ; omega
theorem w_clamp_in (n lo hi : Int) (w : World) (h1 : lo ≤ n) (h2 : n ≤ hi) :
    Calls Try.prog 15 #[.int .i64 n, .int .i64 lo, .int .i64 hi] w fun e w' => e = .returned (.int .i64 n) ∧ w = w' :=
  (w_clamp n lo hi w).mono fun _ _ ⟨h, h'⟩ => ⟨by rw [h, clampZ_in n lo hi h1 h2], h'⟩
theorem clamp2000 (t : Int) : min (max t 0) 2000 = clampZ t 0 2000 := by unfold clampZ; omega
theorem rst_info5 : (Try.prog.info? 42).map (·.size) = some 5 := by kernel_rfl
theorem st_eq {a b c d f : Int} {s : StS} (h1 : a = s.loss) (h2 : b = s.rtt) (h3 : c = s.var) (h4 : d = s.marks) (h5 : f = s.trips) : Ending.returned (.agg #[.int .i64 a, .int .i64 b, .int .i64 c, .int .i64 d, .int .i64 f]) = .returned (.agg (stA s)) := by
  subst h1 h2 h3 h4 h5; rfl
theorem tick8_is (t x : Int) (h : x = if t ≤ 0 then 0 else if t ≤ 2000 then 8 * t else 16000) : x = tick8 t := by
  subst h
  unfold tick8 clampZ
  split
  · omega
  · split <;> omega
theorem nat_abs_a (x : Int) (h : ¬ x < 0) : (x.natAbs : Int) = x := by omega
theorem nat_abs_b (x : Int) (h : x < 0) : (x.natAbs : Int) = -x := by omega
theorem int_val {a b : Int} (h : a = b) : Value.int .i64 a = Value.int .i64 b := by rw [h]
/-! ### Wait, Score -/
def waZ (s : StS) : Int := if s.trips = 0 then 50 else clampZ ((s.rtt + 4 * s.var + 7) / 8) 2 200
def scZ (s : StS) : Int := (65536 - s.loss) * 64 / (64 + s.rtt)
theorem wait_is (x n : Int) (h : x = if n < 2 then 2 else if n ≤ 200 then n else 200) : x = clampZ n 2 200 := by
  subst h
  unfold clampZ
  split
  · omega
  · split <;> omega
def ValPost (W : World) (v : Value) (e : Ending) (W' : World) : Prop := e = .returned v ∧ Below W.heap.size W W'
theorem sc_bd (s : StS) (c : Int) (ok : StOk s c) : 0 ≤ scZ s ∧ scZ s ≤ 65536 := by
  obtain ⟨l0, l1, r0, r1, v0, v1, m0, m1, t0, t1⟩ := ok
  unfold scZ
  refine ⟨Int.ediv_nonneg (by omega) (by omega), ?_⟩
  refine Int.ediv_le_of_le_mul (by omega) ?_
  have : 65536 * 64 ≤ 65536 * (64 + s.rtt) := Int.mul_le_mul_of_nonneg_left (by omega) (by omega)
  omega
end Go.Proofs.Ytpeloeiiaikadaa

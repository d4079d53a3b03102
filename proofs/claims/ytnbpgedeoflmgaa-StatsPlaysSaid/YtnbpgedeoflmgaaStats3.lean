/- The contracts of package stats' Wait, Score, Better, Need, of the document's Trip, Wait, Score, Need, and of the law's Same. Conditions: the state's numbers are as small as marks and trips leave them. -/
import Derived.Test.YtnbpgedeoflmgaaStats2
namespace Go.Proofs.Ytnbpgedeoflmgaa
open Go.RowKit
attribute [local irreducible] twZ tick8 clampZ floorZ satZ
theorem clampZ_in (n lo hi : Int) (h1 : lo ≤ n) (h2 : n ≤ hi) : clampZ n lo hi = n := by unfold clampZ; omega
theorem w_clamp_in (n lo hi : Int) (w : World) (h1 : lo ≤ n) (h2 : n ≤ hi) :
    Calls Try.prog 22 #[.int .i64 n, .int .i64 lo, .int .i64 hi] w fun e w' => e = .returned (.int .i64 n) ∧ w = w' :=
  (w_clamp n lo hi w).mono fun _ _ ⟨h, h'⟩ => ⟨by rw [h, clampZ_in n lo hi h1 h2], h'⟩
theorem clamp2000 (t : Int) : min (max t 0) 2000 = clampZ t 0 2000 := by unfold clampZ; omega
theorem rst_info5 : (Try.prog.info? 26).map (·.size) = some 5 := by kernel_rfl
theorem st_eq {a b c d f : Int} {s : StS} (h1 : a = s.loss) (h2 : b = s.rtt) (h3 : c = s.var) (h4 : d = s.marks) (h5 : f = s.trips) : Ending.returned (.agg #[.int .i64 a, .int .i64 b, .int .i64 c, .int .i64 d, .int .i64 f]) = .returned (.agg (stA s)) := by
  subst h1 h2 h3 h4 h5; rfl
theorem tick8_is (t x : Int) (h : x = if t ≤ 0 then 0 else if t ≤ 2000 then 8 * t else 16000) : x = tick8 t := by
  subst h
  unfold tick8 clampZ
  split
  · omega
  · split <;> omega
theorem nat_abs_a (x : Int) (h : ¬ x < 0) : (x.natAbs : Int) = x := by omega
theorem nat_abs_b (x : Int) (h : x < 0) : (x.natAbs : Int) = -x := by omega
theorem int_val {a b : Int} (h : a = b) : Value.int .i64 a = Value.int .i64 b := by rw [h]
set_option maxHeartbeats 2000000 in
theorem r_trip (s : StS) (c ticks : Int) (w : World) (ok : StOk s c) (hc : c ≤ 1000000) :
    Calls Try.prog 18 #[.agg (stA s), .int .i64 ticks] w (StRet w (stTrip s ticks)) := by
  obtain ⟨l0, l1, r0, r1, v0, v1, m0, m1, t0, t1⟩ := ok
  obtain ⟨loss, rtt, var, marks, trips⟩ := s
  simp only at l0 l1 r0 r1 v0 v1 m0 m1 t0 t1
  have hB : ∀ A B, Below w.heap.size w ((w.alloc A).alloc B) := fun A B => ((Below.refl _ _).alloc (Nat.le_refl _) _).alloc (by show _ ≤ (w.heap.push _).size; rw [Array.size_push]; omega) _
  have hsz : ∀ A, (w.alloc A).heap.size = w.heap.size + 1 := fun A => by show (w.heap.push _).size = _; rw [Array.size_push]
  have hBh := Lib.hid hB
  have hszh := Lib.hid hsz
  have hX := Lib.hid (tick8_is ticks)
  have tb := tick8_bd ticks
  clear hB hsz
  generalize hQ : stTrip ⟨loss, rtt, var, marks, trips⟩ ticks = Q
  unfold stTrip at hQ
  have hQh := Lib.hid hQ
  clear hQ
  unfold stA
  simp only
  generalize tick8 ticks = X at *
  obtain ⟨tb1, tb2⟩ := tb
  go_enter Try.func18, Try.ntmps18
  go_upto_region 1 with (fail)
  go_cut [5] (fun v wx => v = .int .i64 X ∧ wx = (w.alloc (.cells #[.int .i64 loss, .int .i64 rtt, .int .i64 var, .int .i64 marks, .int .i64 trips] 26)).alloc (.cells #[.int .i64 0, .int .i64 0, .int .i64 0, .int .i64 0, .int .i64 0] 26))
  case first =>
    go_wp2_with fail
    all_goals
      go_meet
      exact ⟨int_val (hX.out _ (by split <;> (try split) <;> omega)), rfl⟩
  case rest =>
    obtain ⟨rfl, rfl⟩ := hcut
    by_cases h : trips = 0
    · subst h
      go_wp2_with fail
      refine bodyPost_ret (v := .agg _) (results_cell_row rfl _ _ (w.heap.size + 1) 26 _ (0, 0) _ rfl (last_block0 _ _ _ (hszh.out _).symm) Try.underlying26 rfl rst_info5) rfl ⟨?_, hBh.out _ _⟩
      rw [← hQh.out]; rfl
    · have hne : (trips + 1 == 1) = false := by simp; omega
      have hnh := Lib.hid h
      clear h
      by_cases hneg : X - rtt < 0
      · have hab := Lib.hid (nat_abs_b _ hneg)
        go_wp2_with fail
        refine (r_toward var (-(X - rtt)) 4 _ (by omega) (by omega) (by omega) (by omega) (by omega) (by omega)).mono ?_
        rintro e w' ⟨rfl, rfl⟩
        go_wp2_with fail
        refine (r_toward rtt X 8 _ (by omega) (by omega) (by omega) (by omega) (by omega) (by omega)).mono ?_
        rintro e w' ⟨rfl, rfl⟩
        go_wp2_with fail
        refine bodyPost_ret (v := .agg _) (results_cell_row rfl _ _ (w.heap.size + 1) 26 _ (0, 0) _ rfl (last_block0 _ _ _ (hszh.out _).symm) Try.underlying26 rfl rst_info5) rfl ⟨?_, hBh.out _ _⟩
        rw [← hQh.out, if_neg hnh.out, hab.out]; rfl
      · have hab := Lib.hid (nat_abs_a _ hneg)
        go_wp2_with fail
        refine (r_toward var (X - rtt) 4 _ (by omega) (by omega) (by omega) (by omega) (by omega) (by omega)).mono ?_
        rintro e w' ⟨rfl, rfl⟩
        go_wp2_with fail
        refine (r_toward rtt X 8 _ (by omega) (by omega) (by omega) (by omega) (by omega) (by omega)).mono ?_
        rintro e w' ⟨rfl, rfl⟩
        go_wp2_with fail
        refine bodyPost_ret (v := .agg _) (results_cell_row rfl _ _ (w.heap.size + 1) 26 _ (0, 0) _ rfl (last_block0 _ _ _ (hszh.out _).symm) Try.underlying26 rfl rst_info5) rfl ⟨?_, hBh.out _ _⟩
        rw [← hQh.out, if_neg hnh.out, hab.out]; rfl
/-! ### Wait, Score -/
def waZ (s : StS) : Int := if s.trips = 0 then 50 else clampZ ((s.rtt + 4 * s.var + 7) / 8) 2 200
def scZ (s : StS) : Int := (65536 - s.loss) * 64 / (64 + s.rtt)
theorem wait_is (x n : Int) (h : x = if n < 2 then 2 else if n ≤ 200 then n else 200) : x = clampZ n 2 200 := by
  subst h
  unfold clampZ
  split
  · omega
  · split <;> omega
def ValPost (W : World) (v : Value) (e : Ending) (W' : World) : Prop := e = .returned v ∧ Below W.heap.size W W'
set_option maxHeartbeats 1000000 in
theorem s_wait (s : StS) (c : Int) (w : World) (ok : StOk s c) :
    Calls Try.prog 11 #[.agg (stA s)] w (ValPost w (.int .i64 (waZ s))) := by
  obtain ⟨l0, l1, r0, r1, v0, v1, m0, m1, t0, t1⟩ := ok
  obtain ⟨loss, rtt, var, marks, trips⟩ := s
  simp only at l0 l1 r0 r1 v0 v1 m0 m1 t0 t1
  have hB : ∀ A, Below w.heap.size w (w.alloc A) := fun A => (Below.refl _ _).alloc (Nat.le_refl _) _
  have hBh := Lib.hid hB
  unfold stA waZ
  simp only
  clear hB
  by_cases h : trips = 0
  · rw [if_pos h]
    subst h
    go_enter Try.func11, Try.ntmps11
    go_wp2_with fail
    go_ret
    exact ⟨rfl, hBh.out _⟩
  · rw [if_neg h]
    have hne : (trips == 0) = false := by simp; exact h
    clear h
    go_enter Try.func11, Try.ntmps11
    go_wp2_with fail
    refine (w_clamp _ 2 200 _).mono ?_
    rintro e w' ⟨rfl, rfl⟩
    go_wp2_with fail
    go_ret
    exact ⟨rfl, hBh.out _⟩
set_option maxHeartbeats 1000000 in
theorem r_wait (s : StS) (c : Int) (w : World) (ok : StOk s c) :
    Calls Try.prog 12 #[.agg (stA s)] w (ValPost w (.int .i64 (waZ s))) := by
  obtain ⟨l0, l1, r0, r1, v0, v1, m0, m1, t0, t1⟩ := ok
  obtain ⟨loss, rtt, var, marks, trips⟩ := s
  simp only at l0 l1 r0 r1 v0 v1 m0 m1 t0 t1
  have hB : ∀ A, Below w.heap.size w (w.alloc A) := fun A => (Below.refl _ _).alloc (Nat.le_refl _) _
  have hBh := Lib.hid hB
  unfold stA waZ
  simp only
  clear hB
  by_cases h : trips = 0
  · rw [if_pos h]
    subst h
    go_enter Try.func12, Try.ntmps12
    go_wp2_with fail
    go_ret
    exact ⟨rfl, hBh.out _⟩
  · rw [if_neg h]
    have hne : (trips == 0) = false := by simp; exact h
    have hX := Lib.hid (wait_is · ((rtt + 4 * var + 7) / 8))
    clear h
    go_enter Try.func12, Try.ntmps12
    go_wp2_with fail
    all_goals
      go_ret
      exact ⟨ret_int (hX.out _ (by split <;> (try split) <;> omega)), hBh.out _⟩
theorem sc_bd (s : StS) (c : Int) (ok : StOk s c) : 0 ≤ scZ s ∧ scZ s ≤ 65536 := by
  obtain ⟨l0, l1, r0, r1, v0, v1, m0, m1, t0, t1⟩ := ok
  unfold scZ
  refine ⟨Int.ediv_nonneg (by omega) (by omega), ?_⟩
  refine Int.ediv_le_of_le_mul (by omega) ?_
  have : 65536 * 64 ≤ 65536 * (64 + s.rtt) := Int.mul_le_mul_of_nonneg_left (by omega) (by omega)
  omega
set_option maxHeartbeats 1000000 in
theorem s_score (s : StS) (c : Int) (w : World) (ok : StOk s c) :
    Calls Try.prog 13 #[.agg (stA s)] w (ValPost w (.int .i64 (scZ s))) := by
  obtain ⟨l0, l1, r0, r1, v0, v1, m0, m1, t0, t1⟩ := ok
  obtain ⟨loss, rtt, var, marks, trips⟩ := s
  simp only at l0 l1 r0 r1 v0 v1 m0 m1 t0 t1
  have hB : ∀ A, Below w.heap.size w (w.alloc A) := fun A => (Below.refl _ _).alloc (Nat.le_refl _) _
  have hBh := Lib.hid hB
  unfold stA scZ
  simp only
  clear hB
  go_enter Try.func13, Try.ntmps13
  go_wp2_with fail
  refine (w_clamp_in loss 0 65535 _ (by omega) (by omega)).mono ?_
  rintro e w' ⟨rfl, rfl⟩
  go_wp2_with fail
  go_ret
  exact ⟨rfl, hBh.out _⟩
end Go.Proofs.Ytnbpgedeoflmgaa

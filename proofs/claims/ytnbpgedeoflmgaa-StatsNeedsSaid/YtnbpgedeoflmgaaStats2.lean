/- The contracts of package stats' Trip, Wait, Score, Better, Need, and of the document's answer. Conditions: the state's numbers are as small as marks and trips leave them. -/
import Derived.Test.YtnbpgedeoflmgaaStats
import Derived.Deep.RegionHeld3
namespace Go.Proofs.Ytnbpgedeoflmgaa
open Go.RowKit
attribute [local irreducible] twZ tick8 clampZ floorZ satZ
theorem tick8_def (t : Int) : tick8 t = 8 * clampZ t 0 2000 := by unfold tick8; rfl
theorem clamp_bd2 (t : Int) : 0 ≤ clampZ t 0 2000 ∧ clampZ t 0 2000 ≤ 2000 := clampZ_bd t 0 2000 (by omega)
theorem abs_bd (t : Int) (h1 : -16000 ≤ t) (h2 : t ≤ 16000) : satZ (t.natAbs : Int) = (t.natAbs : Int) ∧ 0 ≤ satZ (t.natAbs : Int) ∧ satZ (t.natAbs : Int) ≤ 16000 := by
  rw [satZ_in _ (by omega) (by omega)]; exact ⟨rfl, by omega, by omega⟩
set_option maxHeartbeats 1000000 in
theorem s_trip (p : Nat) (s : StS) (c ticks : Int) (w : World) (hs : StAt w p s) (ok : StOk s c) (hc : c ≤ 1000000) :
    Calls Try.prog 17 #[.pointer (some ⟨p, 0, none⟩), .int .i64 ticks] w (StPost w p (stTrip s ticks)) := by
  obtain ⟨l0, l1, r0, r1, v0, v1, m0, m1, t0, t1⟩ := ok
  have c1 := hs.c1
  have c2 := hs.c2
  have c4 := hs.c4
  have f1 := hs.fr 1
  have f2 := hs.fr 2
  have f4 := hs.fr 4
  have hsh := hide hs
  have hcb := clamp_bd2 ticks
  have ht8 := Lib.hid (tick8_def ticks)
  clear hs
  obtain ⟨q1, q2⟩ := hcb
  unfold stTrip
  by_cases h : s.trips = 0
  · rw [if_pos h, ht8.out]
    have h0 : Hid (s.trips = 0) := h
    rw [h] at c4
    clear h t0 t1
    go_enter Try.func17, Try.ntmps17
    go_wp2_with (go_at_call 22; refine (w_clamp ticks 0 2000 _).mono ?_; rintro e w' ⟨rfl, rfl⟩)
    go_end0
    refine ⟨rfl, ?_, only_set (only_set (only_set (only_refl _ _) 1 _) 2 _) 4 _⟩
    have h := ((hsh.out.s1 (8 * clampZ ticks 0 2000)).s2 (8 * clampZ ticks 0 2000 / 2)).s4 1
    rw [h0]
    exact h
  · rw [if_neg h, ht8.out]
    have ht : (s.trips == 0) = false := by simp; exact h
    have hab := abs_bd (8 * clampZ ticks 0 2000 - s.rtt) (by omega) (by omega)
    obtain ⟨ha0, ha1, ha2⟩ := hab
    have hah := Lib.hid ha0
    clear ha0 h
    go_enter Try.func17, Try.ntmps17
    go_wp2_with (go_at_call 22; refine (w_clamp ticks 0 2000 _).mono ?_; rintro e w' ⟨rfl, rfl⟩)
    refine (w_abs (8 * clampZ ticks 0 2000 - s.rtt) _ ⟨by omega, by omega⟩).mono ?_
    rintro e w' ⟨rfl, rfl⟩
    go_wp2_with fail
    refine (s_toward s.var (satZ ((8 * clampZ ticks 0 2000 - s.rtt).natAbs : Int)) 4 _ (by omega) (by omega) (by omega) (by omega) (by omega) (by omega)).mono ?_
    rintro e w' ⟨rfl, rfl⟩
    go_wp2_with fail
    refine (s_toward s.rtt (8 * clampZ ticks 0 2000) 8 _ (by omega) (by omega) (by omega) (by omega) (by omega) (by omega)).mono ?_
    rintro e w' ⟨rfl, rfl⟩
    go_wp2_with fail
    go_end0
    refine ⟨rfl, ?_, only_set (only_set (only_set (only_refl _ _) 2 _) 1 _) 4 _⟩
    rw [hah.out]
    exact ((hsh.out.s2 _).s1 _).s4 _
/-! ### the document's -/
def StRet (W : World) (s : StS) (e : Ending) (W' : World) : Prop := e = .returned (.agg (stA s)) ∧ Below W.heap.size W W'
theorem rst_info (s : StS) : (Try.prog.info? 26).map (·.size) = some (stA s).size := by
  have h : (Try.prog.info? 26).map (·.size) = some 5 := by kernel_rfl
  rw [h]; rfl
set_option maxHeartbeats 1000000 in
theorem r_mark (s : StS) (c : Int) (lost : Bool) (w : World) (ok : StOk s c) (hc : c ≤ 1000000) :
    Calls Try.prog 19 #[.agg (stA s), .bool lost] w (StRet w (stMark s lost)) := by
  obtain ⟨l0, l1, r0, r1, v0, v1, m0, m1, t0, t1⟩ := ok
  obtain ⟨loss, rtt, var, marks, trips⟩ := s
  simp only at l0 l1 r0 r1 v0 v1 m0 m1 t0 t1
  have hB : ∀ A B, Below w.heap.size w ((w.alloc A).alloc B) := fun A B => ((Below.refl _ _).alloc (Nat.le_refl _) _).alloc (by show _ ≤ (w.heap.push _).size; rw [Array.size_push]; omega) _
  have hsz : ∀ A, (w.alloc A).heap.size = w.heap.size + 1 := fun A => by show (w.heap.push _).size = _; rw [Array.size_push]
  have hBh := Lib.hid hB
  have hszh := Lib.hid hsz
  clear hB hsz
  unfold stA
  simp only
  cases lost
  · go_enter Try.func19, Try.ntmps19
    go_wp2_with fail
    refine (r_toward loss 0 16 _ (by omega) (by omega) (by omega) (by omega) (by omega) (by omega)).mono ?_
    rintro e w' ⟨rfl, rfl⟩
    go_wp2_with fail
    refine bodyPost_ret (v := .agg (stA (stMark ⟨loss, rtt, var, marks, trips⟩ false))) ?_ rfl ⟨rfl, hBh.out _ _⟩
    exact results_cell_row rfl _ _ (w.heap.size + 1) 26 _ (0, 0) _ rfl (last_block0 _ _ _ (hszh.out _).symm) Try.underlying26 rfl (rst_info _)
  · go_enter Try.func19, Try.ntmps19
    go_wp2_with fail
    refine (r_toward loss 65535 16 _ (by omega) (by omega) (by omega) (by omega) (by omega) (by omega)).mono ?_
    rintro e w' ⟨rfl, rfl⟩
    go_wp2_with fail
    refine bodyPost_ret (v := .agg (stA (stMark ⟨loss, rtt, var, marks, trips⟩ true))) ?_ rfl ⟨rfl, hBh.out _ _⟩
    exact results_cell_row rfl _ _ (w.heap.size + 1) 26 _ (0, 0) _ rfl (last_block0 _ _ _ (hszh.out _).symm) Try.underlying26 rfl (rst_info _)
end Go.Proofs.Ytnbpgedeoflmgaa

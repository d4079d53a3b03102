/- The contract of package pacer's Wait, and the law's awake of layer 12. -/
import Derived.Test.YtchpiiccdoejdaaShare2
import Derived.BigQuiet
namespace Go.Proofs.Ytchpiiccdoejdaa
open Go.RowKit
attribute [local irreducible] satZ
def bkWait (s : BkS) (n : Int) : Int × Bool := if n < 0 ∨ s.burst < n then (0, false) else if n ≤ s.held then (0, true) else ((n - s.held + s.rate - 1) / s.rate, true)
set_option maxHeartbeats 1000000 in
theorem s_wait (p : Nat) (s : BkS) (c n : Int) (w : World) (hs : BkAt w p s) (ok : BkOk s c) :
    Calls Try.prog 11 #[.pointer (some ⟨p, 0, none⟩), .int .i64 n] w (fun e w' => e = .returned (.tuple #[.int .i64 (bkWait s n).1, .bool (bkWait s n).2]) ∧ ∃ k, w' = w.drewN k) := by
  obtain ⟨r0, r1, b0, b1, h0, h1, s0, s1, f0, f1⟩ := ok
  have c0 := hs.c0
  have c1 := hs.c1
  have c2 := hs.c2
  unfold bkWait
  clear hs s0 s1 f0 f1
  by_cases k1 : n < 0
  · rw [if_pos (.inl k1)]
    have d1 : decide (n < 0) = true := decide_eq_true k1
    go_enter Try.func11, Try.ntmps11
    go_wp2_with fail
    go_ret2
    exact ⟨rfl, 0, rfl⟩
  have d1 : decide (n < 0) = false := decide_eq_false k1
  by_cases k2 : s.burst < n
  · rw [if_pos (.inr k2)]
    have d2 : decide (s.burst < n) = true := decide_eq_true k2
    go_enter Try.func11, Try.ntmps11
    go_wp2_with fail
    go_ret2
    exact ⟨rfl, 0, rfl⟩
  rw [if_neg (by omega)]
  have d2 : decide (s.burst < n) = false := decide_eq_false k2
  by_cases k3 : n ≤ s.held
  · rw [if_pos k3]
    have d3 : decide (n ≤ s.held) = true := decide_eq_true k3
    go_enter Try.func11, Try.ntmps11
    go_wp2_with fail
    go_ret2
    exact ⟨rfl, 0, rfl⟩
  rw [if_neg k3]
  have d3 : decide (n ≤ s.held) = false := decide_eq_false k3
  have q0 : (s.rate == 0) = false := by simp; omega
  have q1 : (n - s.held + s.rate - 1).tdiv s.rate = (n - s.held + s.rate - 1) / s.rate := Int.tdiv_eq_ediv_of_nonneg (by omega)
  have q2 := Int.ediv_nonneg (show 0 ≤ n - s.held + s.rate - 1 by omega) (show 0 ≤ s.rate by omega)
  have q3 := Int.ediv_le_self s.rate (show 0 ≤ n - s.held + s.rate - 1 by omega)
  generalize hq : (n - s.held + s.rate - 1) / s.rate = q at *
  have hqh := Lib.hid hq
  clear hq
  go_enter Try.func11, Try.ntmps11
  go_upto_region 5 with (fail)
  go_quiet (fail)
  go_wp2_with fail
  go_ret2
  exact ⟨rfl, nq, rfl⟩
def aw0 : BkS := ⟨10, 30, 30, 0, 0⟩
def aw1 : BkS := ⟨10, 30, 0, 30, 0⟩
theorem aw0_ok : BkOk aw0 0 := ⟨by decide, by decide, by decide, by decide, by decide, by decide, by decide, by decide, by decide, by decide⟩
theorem aw1_ok : BkOk aw1 30 := ⟨by decide, by decide, by decide, by decide, by decide, by decide, by decide, by decide, by decide, by decide⟩
theorem aw_share : mkL 3 (shV 10 (smF (gZ [1, 1, 1]) 3) (gZ [1, 1, 1]) 3) = [4, 3, 3] := by decide
theorem gZ_lit (i : Nat) (h : i < 3) : 0 ≤ gZ [1, 1, 1] i ∧ gZ [1, 1, 1] i ≤ 65536 := by
  have : i = 0 ∨ i = 1 ∨ i = 2 := by omega
  rcases this with rfl | rfl | rfl <;> exact ⟨by decide, by decide⟩
theorem slZ_lit (w : World) (T : TypeId) : SlZ .i64 (w.alloc (.cells #[.int .i64 1, .int .i64 1, .int .i64 1] T)) (some ⟨w.heap.size, 0, none⟩) [1, 1, 1] := by
  have hb := last_block0 w (.cells #[.int .i64 1, .int .i64 1, .int .i64 1] T) _ rfl
  intro i x hx
  have h3 : i < 3 := (List.getElem?_eq_some_iff.1 hx).1
  refine ⟨w.heap.size, 0, rfl, ?_⟩
  rw [cell_of_block hb]
  have : i = 0 ∨ i = 1 ∨ i = 2 := by omega
  rcases this with rfl | rfl | rfl <;> (cases hx; rfl)
set_option maxHeartbeats 1000000 in
theorem pc_awake (w : World) : Calls Try.prog 7 #[] w (fun e w' => e = .returned (.bool true) ∧ Below w.heap.size w w') := by
  go_enter Try.func7, Try.ntmps7
  go_wp2_with fail
  refine (s_new_ok 10 30 w (by decide)).mono ?_
  rintro e w1 ⟨rfl, hb1, hB1⟩
  go_wp2_with fail
  refine (s_take w.heap.size aw0 0 30 w1 hb1 aw0_ok (by decide)).mono ?_
  rintro e w2 ⟨rfl, hb2, hg2⟩
  have hB2 := below_of_only hB1 hg2 hB1.size (Nat.le_refl _)
  clear hB1 hg2 hb1
  have e1 : bkMay aw0 30 = true := by decide
  have e2 : bkTake aw0 30 = aw1 := by rw [bkTake, if_pos (by decide)]; rfl
  rw [e1]
  rw [e2] at hb2
  clear e1 e2
  go_wp2_with fail
  refine (s_wait w.heap.size aw1 30 5 w2 hb2 aw1_ok).mono ?_
  rintro e w3 ⟨rfl, k, rfl⟩
  have e1 : bkWait aw1 5 = (1, true) := by decide
  rw [e1]
  clear e1
  have hB3 := below_drewN hB2 k
  clear hb2 hB2
  generalize w2.drewN k = W at *
  go_wp2_with fail
  refine (s_share_ok 10 _ 3 [1, 1, 1] _ (slZ_lit W _) gZ_lit (by decide) (by decide) (by decide) (by decide)).mono ?_
  intro e w4 h
  have h2 : SharePost (W.alloc (.cells #[.int .i64 1, .int .i64 1, .int .i64 1] 3)) [4, 3, 3] e w4 := by rw [← aw_share]; exact h
  clear h
  obtain ⟨g, hg, rfl, hown, hB4⟩ := h2
  have hsl := own_slZ hown
  obtain ⟨b0, o0, q0, c0⟩ := hsl 0 4 rfl
  obtain ⟨b1, o1, q1, c1⟩ := hsl 1 3 rfl
  obtain ⟨b2, o2, q2, c2⟩ := hsl 2 3 rfl
  cases q0
  cases q1
  cases q2
  have hBA := ((hB3.alloc hB3.size (.cells #[.int .i64 1, .int .i64 1, .int .i64 1] 3)).trans (hB4.mono (by show w.heap.size ≤ (W.heap.push _).size; rw [Array.size_push]; have := hB3.size; omega)))
  clear hsl hown hB4
  go_wp2_with fail
  go_ret
  exact ⟨rfl, hBA⟩
end Go.Proofs.Ytchpiiccdoejdaa

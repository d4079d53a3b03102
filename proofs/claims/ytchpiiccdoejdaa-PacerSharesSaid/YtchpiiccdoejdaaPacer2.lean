/- The contracts of package pacer's May, Take, Wait, Change, New, of the document's Right and Tick, and of the law's same. Conditions: the bucket lies at the pointer, or comes by value; its numbers are as calls leave them. -/
import Derived.Test.YtchpiiccdoejdaaPacer
namespace Go.Proofs.Ytchpiiccdoejdaa
open Go.RowKit
attribute [local irreducible] satZ
def BlPost (W : World) (v : Value) (e : Ending) (W' : World) : Prop := e = .returned v ∧ W = W'
theorem and_b (a b x y : Bool) (h1 : a = x) (h2 : b = y) : (a && b) = (x && y) := by rw [h1, h2]
set_option maxHeartbeats 400000 in
theorem s_may (p : Nat) (s : BkS) (n : Int) (w : World) (hs : BkAt w p s) :
    Calls Try.prog 13 #[.pointer (some ⟨p, 0, none⟩), .int .i64 n] w (BlPost w (.bool (bkMay s n))) := by
  have c2 := hs.c2
  unfold bkMay
  clear hs
  by_cases h : 0 ≤ n
  · have hd : decide (0 ≤ n) = true := decide_eq_true h
    rw [hd]
    go_enter Try.func13, Try.ntmps13
    go_wp2_with fail
    go_ret
    exact ⟨rfl, rfl⟩
  · have hd : decide (0 ≤ n) = false := decide_eq_false h
    rw [hd]
    clear h
    go_enter Try.func13, Try.ntmps13
    go_wp2_with fail
    go_ret
    exact ⟨rfl, rfl⟩
set_option maxHeartbeats 1000000 in
theorem s_take (p : Nat) (s : BkS) (c n : Int) (w : World) (hs : BkAt w p s) (ok : BkOk s c) (hc : c ≤ 1000000000000) :
    Calls Try.prog 14 #[.pointer (some ⟨p, 0, none⟩), .int .i64 n] w (BkPost w p (bkTake s n) (.bool (bkMay s n))) := by
  obtain ⟨r0, r1, b0, b1, h0, h1, s0, s1, f0, f1⟩ := ok
  have hm := Lib.hid (s_may p s n w hs)
  by_cases h : 0 ≤ n ∧ n ≤ s.held
  · have e1 : bkMay s n = true := by unfold bkMay; simp [h.1, h.2]
    have e2 : bkTake s n = { s with held := s.held - n, spent := s.spent + n } := by unfold bkTake; rw [if_pos h]
    rw [e1] at hm ⊢
    rw [e2]
    obtain ⟨n0, n1⟩ := h
    have c2 := hs.c2
    have c3 := hs.c3
    have g2 := hs.fr 2
    have g3 := hs.fr 3
    have hsh := hide hs
    have hadd := Lib.hid (fun W => w_add s.spent n W ⟨by omega, by omega⟩ ⟨by omega, by omega⟩)
    have hsat := Lib.hid (satZ_in (s.spent + n) (by omega) (by omega))
    clear hs e1 e2
    go_enter Try.func14, Try.ntmps14
    go_wp2_with fail
    refine hm.out.mono ?_
    rintro e w' ⟨rfl, rfl⟩
    go_wp2_with fail
    refine (hadd.out _).mono ?_
    rintro e w' ⟨rfl, rfl⟩
    rw [hsat.out]
    go_wp2_with fail
    go_ret
    exact ⟨rfl, (hsh.out.s2 _).s3 _, only_set (only_set (only_refl _ _) 2 _) 3 _⟩
  · have e1 : bkMay s n = false := by
      unfold bkMay
      by_cases h0 : 0 ≤ n
      · have : ¬ n ≤ s.held := fun x => h ⟨h0, x⟩
        simp [this]
      · simp [h0]
    have e2 : bkTake s n = s := by unfold bkTake; rw [if_neg h]
    rw [e1] at hm ⊢
    rw [e2]
    have hsh := hide hs
    clear hs h e1 e2
    go_enter Try.func14, Try.ntmps14
    go_wp2_with fail
    refine hm.out.mono ?_
    rintro e w' ⟨rfl, rfl⟩
    go_wp2_with fail
    go_ret
    exact ⟨rfl, hsh.out, only_refl _ _⟩
set_option maxHeartbeats 1000000 in
theorem r_right (r b : Int) (w : World) :
    Calls Try.prog 16 #[.int .i64 r, .int .i64 b] w (BlPost w (.bool (bkRight r b))) := by
  unfold bkRight
  by_cases h1 : 1 ≤ r
  · have d1 : decide (1 ≤ r) = true := decide_eq_true h1
    by_cases h2 : r ≤ 1048576
    · have d2 : decide (r ≤ 1048576) = true := decide_eq_true h2
      by_cases h3 : 1 ≤ b
      · have d3 : decide (1 ≤ b) = true := decide_eq_true h3
        rw [d1, d2, d3]
        go_enter Try.func16, Try.ntmps16
        go_wp2_with fail
        go_ret
        exact ⟨rfl, rfl⟩
      · have d3 : decide (1 ≤ b) = false := decide_eq_false h3
        rw [d1, d2, d3]
        clear h3
        go_enter Try.func16, Try.ntmps16
        go_wp2_with fail
        go_ret
        exact ⟨rfl, rfl⟩
    · have d2 : decide (r ≤ 1048576) = false := decide_eq_false h2
      rw [d1, d2]
      clear h2
      go_enter Try.func16, Try.ntmps16
      go_wp2_with fail
      go_ret
      exact ⟨rfl, rfl⟩
  · have d1 : decide (1 ≤ r) = false := decide_eq_false h1
    rw [d1]
    clear h1
    go_enter Try.func16, Try.ntmps16
    go_wp2_with fail
    go_ret
    exact ⟨rfl, rfl⟩
theorem not_right (r b : Int) (h : bkRight r b = false) : r < 1 ∨ (1 ≤ r ∧ 1048576 < r) ∨ (1 ≤ r ∧ r ≤ 1048576 ∧ b < 1) ∨ (1 ≤ r ∧ r ≤ 1048576 ∧ 1 ≤ b ∧ 16777216 < b) := by
  have h2 : ¬ (1 ≤ r ∧ r ≤ 1048576 ∧ 1 ≤ b ∧ b ≤ 16777216) := fun x => by rw [(bkRight_iff r b).2 x] at h; cases h
  omega
def bkErr (r b : Int) : Int := if bkRight r b = true then 0 else 1
set_option maxHeartbeats 2000000 in
theorem s_change (p : Nat) (s : BkS) (r b : Int) (w : World) (hs : BkAt w p s) :
    Calls Try.prog 18 #[.pointer (some ⟨p, 0, none⟩), .int .i64 r, .int .i64 b] w (BkPost w p (bkChange s r b) (.int .i64 (bkErr r b))) := by
  unfold bkChange bkErr
  have c0 := hs.c0
  have c1 := hs.c1
  have c2 := hs.c2
  have g0 := hs.fr 0
  have g1 := hs.fr 1
  have g2 := hs.fr 2
  have hsh := hide hs
  clear hs
  cases hr : bkRight r b
  · rw [if_neg (by simp), if_neg (by simp)]
    have hn := not_right r b hr
    clear hr c0 c1 c2 g0 g1 g2
    rcases hn with h | ⟨h1, h⟩ | ⟨h1, h2, h⟩ | ⟨h1, h2, h3, h⟩
    · have d1 : decide (r < 1) = true := decide_eq_true h
      go_enter Try.func18, Try.ntmps18
      go_wp2_with fail
      go_ret
      exact ⟨rfl, hsh.out, only_refl _ _⟩
    · have d1 : decide (r < 1) = false := decide_eq_false (by omega)
      have d2 : decide (1048576 < r) = true := decide_eq_true h
      go_enter Try.func18, Try.ntmps18
      go_wp2_with fail
      go_ret
      exact ⟨rfl, hsh.out, only_refl _ _⟩
    · have d1 : decide (r < 1) = false := decide_eq_false (by omega)
      have d2 : decide (1048576 < r) = false := decide_eq_false (by omega)
      have d3 : decide (b < 1) = true := decide_eq_true h
      go_enter Try.func18, Try.ntmps18
      go_wp2_with fail
      go_ret
      exact ⟨rfl, hsh.out, only_refl _ _⟩
    · have d1 : decide (r < 1) = false := decide_eq_false (by omega)
      have d2 : decide (1048576 < r) = false := decide_eq_false (by omega)
      have d3 : decide (b < 1) = false := decide_eq_false (by omega)
      have d4 : decide (16777216 < b) = true := decide_eq_true h
      go_enter Try.func18, Try.ntmps18
      go_wp2_with fail
      go_ret
      exact ⟨rfl, hsh.out, only_refl _ _⟩
  · rw [if_pos rfl, if_pos rfl]
    obtain ⟨a1, a2, a3, a4⟩ := (bkRight_iff r b).1 hr
    have d1 : decide (r < 1) = false := decide_eq_false (by omega)
    have d2 : decide (1048576 < r) = false := decide_eq_false (by omega)
    have d3 : decide (b < 1) = false := decide_eq_false (by omega)
    have d4 : decide (16777216 < b) = false := decide_eq_false (by omega)
    clear hr
    by_cases hle : s.held ≤ b
    · rw [if_pos hle]
      go_enter Try.func18, Try.ntmps18
      go_wp2_with fail
      go_ret
      exact ⟨rfl, ((hsh.out.s0 r).s1 b).s2 s.held, only_set (only_set (only_set (only_refl _ _) 0 _) 1 _) 2 _⟩
    · rw [if_neg hle]
      go_enter Try.func18, Try.ntmps18
      go_wp2_with fail
      go_ret
      exact ⟨rfl, ((hsh.out.s0 r).s1 b).s2 b, only_set (only_set (only_set (only_refl _ _) 0 _) 1 _) 2 _⟩
/-! ### New -/
def BkNew (W : World) (r b : Int) (e : Ending) (W' : World) : Prop := e = .returned (.tuple #[.pointer (some ⟨W.heap.size, 0, none⟩), .int .i64 0]) ∧ BkAt W' W.heap.size ⟨r, b, b, 0, 0⟩ ∧ Below W.heap.size W W'
set_option maxHeartbeats 1000000 in
theorem s_new_ok (r b : Int) (w : World) (hr : bkRight r b = true) :
    Calls Try.prog 15 #[.int .i64 r, .int .i64 b] w (BkNew w r b) := by
  obtain ⟨a1, a2, a3, a4⟩ := (bkRight_iff r b).1 hr
  have d1 : decide (r < 1) = false := decide_eq_false (by omega)
  have d2 : decide (1048576 < r) = false := decide_eq_false (by omega)
  have d3 : decide (b < 1) = false := decide_eq_false (by omega)
  have d4 : decide (16777216 < b) = false := decide_eq_false (by omega)
  have hfin : BkAt (w.alloc (.cells (bkA ⟨r, b, b, 0, 0⟩) 39)) w.heap.size ⟨r, b, b, 0, 0⟩ := last_block0 _ _ _ rfl
  have hfinh := Lib.hid hfin
  clear hfin hr
  go_enter Try.func15, Try.ntmps15
  go_wp2_with fail
  go_ret2
  exact ⟨rfl, hfinh.out, (Below.refl _ _).alloc (Nat.le_refl _) _⟩
set_option maxHeartbeats 1000000 in
theorem s_new_no (r b : Int) (w : World) (hr : bkRight r b = false) :
    Calls Try.prog 15 #[.int .i64 r, .int .i64 b] w (BlPost w (.tuple #[.pointer none, .int .i64 1])) := by
  have hn := not_right r b hr
  clear hr
  rcases hn with h | ⟨h1, h⟩ | ⟨h1, h2, h⟩ | ⟨h1, h2, h3, h⟩
  · have d1 : decide (r < 1) = true := decide_eq_true h
    go_enter Try.func15, Try.ntmps15
    go_wp2_with fail
    go_ret2
    exact ⟨rfl, rfl⟩
  · have d1 : decide (r < 1) = false := decide_eq_false (by omega)
    have d2 : decide (1048576 < r) = true := decide_eq_true h
    go_enter Try.func15, Try.ntmps15
    go_wp2_with fail
    go_ret2
    exact ⟨rfl, rfl⟩
  · have d1 : decide (r < 1) = false := decide_eq_false (by omega)
    have d2 : decide (1048576 < r) = false := decide_eq_false (by omega)
    have d3 : decide (b < 1) = true := decide_eq_true h
    go_enter Try.func15, Try.ntmps15
    go_wp2_with fail
    go_ret2
    exact ⟨rfl, rfl⟩
  · have d1 : decide (r < 1) = false := decide_eq_false (by omega)
    have d2 : decide (1048576 < r) = false := decide_eq_false (by omega)
    have d3 : decide (b < 1) = false := decide_eq_false (by omega)
    have d4 : decide (16777216 < b) = true := decide_eq_true h
    go_enter Try.func15, Try.ntmps15
    go_wp2_with fail
    go_ret2
    exact ⟨rfl, rfl⟩
end Go.Proofs.Ytchpiiccdoejdaa

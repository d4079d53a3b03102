/- The contracts of package stats and of the document's answer for it: what marks and trips do to a way's state, and what it tells. Conditions: the state lies at the pointer, or comes by value; its numbers are as small as marks and trips leave them. -/
import Derived.Test.YtpeloeiiaikadaaWord5
import Derived.Test.YtpeloeiiaikadaaWordRef
import Derived.Test.YtpeloeiiaikadaaWhole
namespace Go.Proofs.Ytpeloeiiaikadaa
open Go.RowKit
/-! ### the plain law -/
structure StS where
  loss : Int
  rtt : Int
  var : Int
  marks : Int
  trips : Int
def stA (s : StS) : Array Value := #[.int .i64 s.loss, .int .i64 s.rtt, .int .i64 s.var, .int .i64 s.marks, .int .i64 s.trips]
def z0T : StS := ⟨0, 0, 0, 0, 0⟩
/-- numbers that marks and trips leave -/
structure StOk (s : StS) (c : Int) : Prop where
  l0 : 0 ≤ s.loss
  l1 : s.loss ≤ 65535
  r0 : 0 ≤ s.rtt
  r1 : s.rtt ≤ 16000
  v0 : 0 ≤ s.var
  v1 : s.var ≤ 16000
  m0 : 0 ≤ s.marks
  m1 : s.marks ≤ c
  t0 : 0 ≤ s.trips
  t1 : s.trips ≤ c
/-- a share of the way to another number, rounded down -/
def twZ (n uu sh : Int) : Int := n + (uu - n) / sh
theorem floorZ_pos (a b : Int) (hb : 0 < b) (h1 : -9223372036854775808 ≤ a) (h2 : a ≤ 9223372036854775807) : floorZ a b = a / b := by
  unfold floorZ
  rw [if_neg (by omega), Int.fdiv_eq_ediv_of_nonneg _ (by omega)]
  have h3 : a / b ≤ max a 0 := by
    rcases Int.le_total 0 a with h | h
    · have := Int.ediv_le_self b h; omega
    · have := Int.ediv_nonpos_of_nonpos_of_neg h hb; omega
  have h4 : min a 0 ≤ a / b := by
    rcases Int.le_total 0 a with h | h
    · have := Int.ediv_nonneg h (show 0 ≤ b by omega); omega
    · have h5 : a * b ≤ a * 1 := Int.mul_le_mul_of_nonpos_left h (by omega)
      have : a ≤ a / b := Int.le_ediv_of_mul_le hb (by omega)
      omega
  exact satZ_in _ (by omega) (by omega)
theorem twZ_bd (n uu sh lo hi : Int) (hs : 0 < sh) (h1 : lo ≤ n) (h2 : n ≤ hi) (h3 : lo ≤ uu) (h4 : uu ≤ hi) : lo ≤ twZ n uu sh ∧ twZ n uu sh ≤ hi := by
  unfold twZ
  have hd : uu - n = sh * ((uu - n) / sh) + (uu - n) % sh := by have := Int.mul_ediv_add_emod (uu - n) sh; omega
  have hr := Int.emod_nonneg (uu - n) (show sh ≠ 0 by omega)
  have hr2 := Int.emod_lt_of_pos (uu - n) hs
  rcases Int.le_total 0 (uu - n) with h | h
  · have h5 := Int.ediv_nonneg h (show 0 ≤ sh by omega)
    have h6 := Int.ediv_le_self sh h
    omega
  · have h5 := Int.ediv_nonpos_of_nonpos_of_neg h hs
    have h6 : uu - n ≤ (uu - n) / sh := by
      refine Int.le_ediv_of_mul_le hs ?_
      have h5 : (uu - n) * sh ≤ (uu - n) * 1 := Int.mul_le_mul_of_nonpos_left h (by omega)
      omega
    omega
def stMark (s : StS) (lost : Bool) : StS := { s with loss := twZ s.loss (if lost then 65535 else 0) 16, marks := s.marks + 1 }
def tick8 (ticks : Int) : Int := 8 * clampZ ticks 0 2000
theorem tick8_bd (t : Int) : 0 ≤ tick8 t ∧ tick8 t ≤ 16000 := by unfold tick8 clampZ; omega
def stTrip (s : StS) (ticks : Int) : StS :=
  if s.trips = 0 then { s with rtt := tick8 ticks, var := tick8 ticks / 2, trips := s.trips + 1 }
  else { s with rtt := twZ s.rtt (tick8 ticks) 8, var := twZ s.var ((tick8 ticks - s.rtt).natAbs : Int) 4, trips := s.trips + 1 }
theorem stMark_ok (s : StS) (c : Int) (lost : Bool) (h : StOk s c) : StOk (stMark s lost) (c + 1) := by
  obtain ⟨l0, l1, r0, r1, v0, v1, m0, m1, t0, t1⟩ := h
  have := twZ_bd s.loss (if lost then 65535 else 0) 16 0 65535 (by omega) l0 l1 (by cases lost <;> simp) (by cases lost <;> simp)
  exact ⟨this.1, this.2, r0, r1, v0, v1, by simp only [stMark]; omega, by simp only [stMark]; omega, t0, by simp only [stMark]; omega⟩
theorem stTrip_ok (s : StS) (c t : Int) (h : StOk s c) : StOk (stTrip s t) (c + 1) := by
  obtain ⟨l0, l1, r0, r1, v0, v1, m0, m1, t0, t1⟩ := h
  have hb := tick8_bd t
  unfold stTrip
  split
  · exact ⟨l0, l1, hb.1, hb.2, by simp only; omega, by simp only; omega, m0, by simp only; omega, by simp only; omega, by simp only; omega⟩
  · have h1 := twZ_bd s.rtt (tick8 t) 8 0 16000 (by omega) r0 r1 hb.1 hb.2
    have h2 := twZ_bd s.var ((tick8 t - s.rtt).natAbs : Int) 4 0 16000 (by omega) v0 v1 (by omega) (by omega)
    exact ⟨l0, l1, h1.1, h1.2, h2.1, h2.2, m0, by simp only; omega, by simp only; omega, by simp only; omega⟩
attribute [local irreducible] twZ tick8 clampZ floorZ satZ
/-! ### toward -/
theorem tw_of (n uu sh : Int) (h : floorZ (uu - n) sh = (uu - n) / sh) : n + floorZ (uu - n) sh = twZ n uu sh := by rw [h]; unfold twZ; rfl
theorem flo_bd (n uu sh : Int) (hs : 0 < sh) (h1 : -1000000 ≤ n) (h2 : n ≤ 1000000) (h3 : -1000000 ≤ uu) (h4 : uu ≤ 1000000) : floorZ (uu - n) sh = (uu - n) / sh ∧ -2000000 ≤ floorZ (uu - n) sh ∧ floorZ (uu - n) sh ≤ 2000000 := by
  have e := floorZ_pos (uu - n) sh hs (by omega) (by omega)
  have h := twZ_bd n uu sh (-1000000) 1000000 hs h1 h2 h3 h4
  unfold twZ at h
  rw [e]
  exact ⟨rfl, by omega, by omega⟩
def TwPost (W : World) (n uu sh : Int) (e : Ending) (W' : World) : Prop := e = .returned (.int .i64 (twZ n uu sh)) ∧ W = W'
/-! ### the state in memory -/
def StAt (w : World) (p : Nat) (s : StS) : Prop := w.heap[p]? = some (.cells (stA s) 40 (0, 0))
theorem StAt.lt {w : World} {p : Nat} {s : StS} (h : StAt w p s) : p < w.heap.size := (Array.getElem?_eq_some_iff.1 h).1
theorem StAt.c0 {w : World} {p : Nat} {s : StS} (h : StAt w p s) : w.cell? ⟨p, 0, none⟩ = some (.int .i64 s.loss) := by rw [cell_of_block h]; rfl
theorem StAt.c1 {w : World} {p : Nat} {s : StS} (h : StAt w p s) : w.cell? ⟨p, 1, none⟩ = some (.int .i64 s.rtt) := by rw [cell_of_block h]; rfl
theorem StAt.c2 {w : World} {p : Nat} {s : StS} (h : StAt w p s) : w.cell? ⟨p, 2, none⟩ = some (.int .i64 s.var) := by rw [cell_of_block h]; rfl
theorem StAt.c3 {w : World} {p : Nat} {s : StS} (h : StAt w p s) : w.cell? ⟨p, 3, none⟩ = some (.int .i64 s.marks) := by rw [cell_of_block h]; rfl
theorem StAt.c4 {w : World} {p : Nat} {s : StS} (h : StAt w p s) : w.cell? ⟨p, 4, none⟩ = some (.int .i64 s.trips) := by rw [cell_of_block h]; rfl
theorem StAt.fr {w : World} {p : Nat} {s : StS} (h : StAt w p s) (i : Nat) : w.frozen? ⟨p, i, none⟩ = false := frozen_of_row w p i _ _ h
theorem StAt.s0 {w : World} {p : Nat} {s : StS} (h : StAt w p s) (x : Int) : StAt (w.setCell ⟨p, 0, none⟩ (.int .i64 x)) p { s with loss := x } := blk_set h 0 _
theorem StAt.s1 {w : World} {p : Nat} {s : StS} (h : StAt w p s) (x : Int) : StAt (w.setCell ⟨p, 1, none⟩ (.int .i64 x)) p { s with rtt := x } := blk_set h 1 _
theorem StAt.s2 {w : World} {p : Nat} {s : StS} (h : StAt w p s) (x : Int) : StAt (w.setCell ⟨p, 2, none⟩ (.int .i64 x)) p { s with var := x } := blk_set h 2 _
theorem StAt.s3 {w : World} {p : Nat} {s : StS} (h : StAt w p s) (x : Int) : StAt (w.setCell ⟨p, 3, none⟩ (.int .i64 x)) p { s with marks := x } := blk_set h 3 _
theorem StAt.s4 {w : World} {p : Nat} {s : StS} (h : StAt w p s) (x : Int) : StAt (w.setCell ⟨p, 4, none⟩ (.int .i64 x)) p { s with trips := x } := blk_set h 4 _
def StPost (W : World) (p : Nat) (s : StS) (e : Ending) (W' : World) : Prop := e = .returned (.tuple #[]) ∧ StAt W' p s ∧ W.grownBy W' (some p)
end Go.Proofs.Ytpeloeiiaikadaa

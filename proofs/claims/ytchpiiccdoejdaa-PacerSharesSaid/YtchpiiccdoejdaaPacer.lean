/- The contracts of package pacer's Tick, May, Take, Wait, Change, New and of the document's answer. Conditions: the bucket lies at the pointer, or comes by value; its numbers are as calls leave them. -/
import Derived.Test.YtchpiiccdoejdaaRMul
import Derived.Test.YtchpiiccdoejdaaRec
import Derived.Test.YtchpiiccdoejdaaRead
namespace Go.Proofs.Ytchpiiccdoejdaa
open Go.RowKit
structure BkS where
  rate : Int
  burst : Int
  held : Int
  spent : Int
  full : Int
def bkA (s : BkS) : Array Value := #[.int .i64 s.rate, .int .i64 s.burst, .int .i64 s.held, .int .i64 s.spent, .int .i64 s.full]
structure BkOk (s : BkS) (c : Int) : Prop where
  r0 : 1 ≤ s.rate
  r1 : s.rate ≤ 1048576
  b0 : 1 ≤ s.burst
  b1 : s.burst ≤ 16777216
  h0 : 0 ≤ s.held
  h1 : s.held ≤ s.burst
  s0 : 0 ≤ s.spent
  s1 : s.spent ≤ c
  f0 : 0 ≤ s.full
  f1 : s.full ≤ 9223372036854775807
def bkTick (s : BkS) (t : Int) : BkS :=
  if t ≤ 0 then s
  else if satZ (s.rate * t) ≤ s.burst - s.held then { s with held := s.held + satZ (s.rate * t) }
  else { s with held := s.burst, full := satZ (s.full + (satZ (s.rate * t) - (s.burst - s.held))) }
def bkMay (s : BkS) (n : Int) : Bool := decide (0 ≤ n) && decide (n ≤ s.held)
def bkTake (s : BkS) (n : Int) : BkS := if 0 ≤ n ∧ n ≤ s.held then { s with held := s.held - n, spent := s.spent + n } else s
def bkRight (r b : Int) : Bool := decide (1 ≤ r) && (decide (r ≤ 1048576) && (decide (1 ≤ b) && decide (b ≤ 16777216)))
def bkChange (s : BkS) (r b : Int) : BkS := if bkRight r b = true then { s with rate := r, burst := b, held := if s.held ≤ b then s.held else b } else s
theorem satZ_nn (n : Int) (h : 0 ≤ n) : 0 ≤ satZ n ∧ satZ n ≤ 9223372036854775807 := by
  have := satZ_bd n
  unfold satZ
  split
  · omega
  · split <;> omega
theorem mul_nn (a b : Int) (ha : 0 ≤ a) (hb : 0 ≤ b) : 0 ≤ a * b := Int.mul_nonneg ha hb
theorem bkTick_ok (s : BkS) (c t : Int) (h : BkOk s c) : BkOk (bkTick s t) c := by
  obtain ⟨r0, r1, b0, b1, h0, h1, s0, s1, f0, f1⟩ := h
  unfold bkTick
  split
  · exact ⟨r0, r1, b0, b1, h0, h1, s0, s1, f0, f1⟩
  · have hn := satZ_nn (s.rate * t) (mul_nn _ _ (by omega) (by omega))
    split
    · exact ⟨r0, r1, b0, b1, by simp only; omega, by simp only; omega, s0, s1, f0, f1⟩
    · have hf := satZ_nn (s.full + (satZ (s.rate * t) - (s.burst - s.held))) (by omega)
      exact ⟨r0, r1, b0, b1, by simp only; omega, by simp only; omega, s0, s1, hf.1, hf.2⟩
theorem bkTake_ok (s : BkS) (c n : Int) (h : BkOk s c) : BkOk (bkTake s n) (c + 16777216) := by
  obtain ⟨r0, r1, b0, b1, h0, h1, s0, s1, f0, f1⟩ := h
  unfold bkTake
  split
  · exact ⟨r0, r1, b0, b1, by simp only; omega, by simp only; omega, by simp only; omega, by simp only; omega, f0, f1⟩
  · exact ⟨r0, r1, b0, b1, h0, h1, s0, by omega, f0, f1⟩
theorem bkRight_iff (r b : Int) : bkRight r b = true ↔ 1 ≤ r ∧ r ≤ 1048576 ∧ 1 ≤ b ∧ b ≤ 16777216 := by unfold bkRight; simp
theorem bkChange_ok (s : BkS) (c r b : Int) (h : BkOk s c) : BkOk (bkChange s r b) c := by
  obtain ⟨r0, r1, b0, b1, h0, h1, s0, s1, f0, f1⟩ := h
  unfold bkChange
  split
  · rename_i hr
    obtain ⟨a1, a2, a3, a4⟩ := (bkRight_iff r b).1 hr
    refine ⟨a1, a2, a3, a4, ?_, ?_, s0, s1, f0, f1⟩ <;> simp only <;> split <;> omega
  · exact ⟨r0, r1, b0, b1, h0, h1, s0, s1, f0, f1⟩
theorem BkOk.mono {s : BkS} {c d : Int} (h : BkOk s c) (hc : c ≤ d) : BkOk s d := ⟨h.r0, h.r1, h.b0, h.b1, h.h0, h.h1, h.s0, Int.le_trans h.s1 hc, h.f0, h.f1⟩
attribute [local irreducible] satZ
/-! ### in memory -/
def BkAt (w : World) (p : Nat) (s : BkS) : Prop := w.heap[p]? = some (.cells (bkA s) 39 (0, 0))
theorem BkAt.lt {w : World} {p : Nat} {s : BkS} (h : BkAt w p s) : p < w.heap.size := (Array.getElem?_eq_some_iff.1 h).1
theorem BkAt.c0 {w : World} {p : Nat} {s : BkS} (h : BkAt w p s) : w.cell? ⟨p, 0, none⟩ = some (.int .i64 s.rate) := by rw [cell_of_block h]; rfl
theorem BkAt.c1 {w : World} {p : Nat} {s : BkS} (h : BkAt w p s) : w.cell? ⟨p, 1, none⟩ = some (.int .i64 s.burst) := by rw [cell_of_block h]; rfl
theorem BkAt.c2 {w : World} {p : Nat} {s : BkS} (h : BkAt w p s) : w.cell? ⟨p, 2, none⟩ = some (.int .i64 s.held) := by rw [cell_of_block h]; rfl
theorem BkAt.c3 {w : World} {p : Nat} {s : BkS} (h : BkAt w p s) : w.cell? ⟨p, 3, none⟩ = some (.int .i64 s.spent) := by rw [cell_of_block h]; rfl
theorem BkAt.c4 {w : World} {p : Nat} {s : BkS} (h : BkAt w p s) : w.cell? ⟨p, 4, none⟩ = some (.int .i64 s.full) := by rw [cell_of_block h]; rfl
theorem BkAt.fr {w : World} {p : Nat} {s : BkS} (h : BkAt w p s) (i : Nat) : w.frozen? ⟨p, i, none⟩ = false := frozen_of_row w p i _ _ h
theorem BkAt.s0 {w : World} {p : Nat} {s : BkS} (h : BkAt w p s) (x : Int) : BkAt (w.setCell ⟨p, 0, none⟩ (.int .i64 x)) p { s with rate := x } := blk_set h 0 _
theorem BkAt.s1 {w : World} {p : Nat} {s : BkS} (h : BkAt w p s) (x : Int) : BkAt (w.setCell ⟨p, 1, none⟩ (.int .i64 x)) p { s with burst := x } := blk_set h 1 _
theorem BkAt.s2 {w : World} {p : Nat} {s : BkS} (h : BkAt w p s) (x : Int) : BkAt (w.setCell ⟨p, 2, none⟩ (.int .i64 x)) p { s with held := x } := blk_set h 2 _
theorem BkAt.s3 {w : World} {p : Nat} {s : BkS} (h : BkAt w p s) (x : Int) : BkAt (w.setCell ⟨p, 3, none⟩ (.int .i64 x)) p { s with spent := x } := blk_set h 3 _
theorem BkAt.s4 {w : World} {p : Nat} {s : BkS} (h : BkAt w p s) (x : Int) : BkAt (w.setCell ⟨p, 4, none⟩ (.int .i64 x)) p { s with full := x } := blk_set h 4 _
theorem BkAt.to {w : World} {p : Nat} {s t : BkS} (h : BkAt w p s) (e : s = t) : BkAt w p t := e ▸ h
def BkPost (W : World) (p : Nat) (s : BkS) (v : Value) (e : Ending) (W' : World) : Prop := e = .returned v ∧ BkAt W' p s ∧ W.grownBy W' (some p)
theorem w_mul0 (a : Int) (w : World) (ha : I64 a) : Calls Try.prog 20 #[.int .i64 a, .int .i64 0] w fun e w' => e = .returned (.int .i64 0) ∧ w = w' :=
  (w_mul a 0 w ha ⟨by decide, by decide⟩).mono fun _ _ ⟨h, h'⟩ => ⟨by rw [h, Int.mul_zero, satZ_in 0 (by decide) (by decide)], h'⟩
theorem w_add0 (a : Int) (w : World) (ha : I64 a) : Calls Try.prog 21 #[.int .i64 a, .int .i64 0] w fun e w' => e = .returned (.int .i64 a) ∧ w = w' :=
  (w_add a 0 w ha ⟨by decide, by decide⟩).mono fun _ _ ⟨h, h'⟩ => ⟨by rw [h, Int.add_zero, satZ_in a ha.1 ha.2], h'⟩
set_option maxHeartbeats 1000000 in
theorem s_tick (p : Nat) (s : BkS) (c t : Int) (w : World) (hs : BkAt w p s) (ok : BkOk s c) (ht : t ≤ 9223372036854775807) :
    Calls Try.prog 12 #[.pointer (some ⟨p, 0, none⟩), .int .i64 t] w (BkPost w p (bkTick s t) (.tuple #[])) := by
  obtain ⟨r0, r1, b0, b1, h0, h1, s0, s1, f0, f1⟩ := ok
  have c0 := hs.c0
  have c1 := hs.c1
  have c2 := hs.c2
  have c4 := hs.c4
  have g2 := hs.fr 2
  have g4 := hs.fr 4
  have hsh := hide hs
  clear hs
  by_cases h : t ≤ 0
  · have hfin : Hid (bkTick s t = s) := hide (by unfold bkTick; rw [if_pos h])
    by_cases hz : t = 0
    · subst hz
      go_enter Try.func12, Try.ntmps12
      go_wp2_with fail
      refine (w_mul0 s.rate _ ⟨by omega, by omega⟩).mono ?_
      rintro e w' ⟨rfl, rfl⟩
      go_wp2_with fail
      go_quiet (fail)
      go_wp2_with fail
      refine (w_add0 s.full _ ⟨by omega, by omega⟩).mono ?_
      rintro e w' ⟨rfl, rfl⟩
      go_wp2_with fail
      go_end0
      rw [hfin.out]
      exact ⟨rfl, ((hsh.out.s2 s.held).s4 s.full : BkAt _ p s), only_set (only_set (only_drewN (only_refl _ _) _) 2 _) 4 _⟩
    · have hneg : t < 0 := by omega
      clear h hz
      go_enter Try.func12, Try.ntmps12
      go_wp2_with fail
      refine (w_mul0 s.rate _ ⟨by omega, by omega⟩).mono ?_
      rintro e w' ⟨rfl, rfl⟩
      go_wp2_with fail
      go_quiet (fail)
      go_wp2_with fail
      refine (w_add0 s.full _ ⟨by omega, by omega⟩).mono ?_
      rintro e w' ⟨rfl, rfl⟩
      go_wp2_with fail
      go_end0
      rw [hfin.out]
      exact ⟨rfl, ((hsh.out.s2 s.held).s4 s.full : BkAt _ p s), only_set (only_set (only_drewN (only_refl _ _) _) 2 _) 4 _⟩
  · have hN := satZ_nn (s.rate * t) (mul_nn _ _ (by omega) (by omega))
    have hfin : ∀ N, satZ (s.rate * t) = N → bkTick s t = if N ≤ s.burst - s.held then { s with held := s.held + N } else { s with held := s.burst, full := satZ (s.full + (N - (s.burst - s.held))) } := fun N hN => by
      subst hN; unfold bkTick; rw [if_neg h]
    have hmul := Lib.hid (fun W => w_mul s.rate t W ⟨by omega, by omega⟩ ⟨by omega, by omega⟩)
    have hpos : 0 < t := by omega
    have hfin2 := hfin _ rfl
    clear h hfin
    generalize satZ (s.rate * t) = N at *
    obtain ⟨n0, n1⟩ := hN
    by_cases hle : N ≤ s.burst - s.held
    · rw [if_pos hle] at hfin2
      have hfh := Lib.hid hfin2
      clear hfin2
      go_enter Try.func12, Try.ntmps12
      go_wp2_with fail
      refine (hmul.out _).mono ?_
      rintro e w' ⟨rfl, rfl⟩
      go_wp2_with fail
      go_quiet (fail)
      go_wp2_with fail
      all_goals
        first
          | refine (w_add0 s.full _ ⟨by omega, by omega⟩).mono ?_
          | (have hzz : N - (s.burst - s.held) = 0 := by omega
             rw [hzz]
             refine (w_add0 s.full _ ⟨by omega, by omega⟩).mono ?_)
        rintro e w' ⟨rfl, rfl⟩
        go_wp2_with fail
        go_end0
        rw [hfh.out]
        exact ⟨rfl, ((hsh.out.s2 (s.held + N)).s4 s.full : BkAt _ p _), only_set (only_set (only_drewN (only_refl _ _) _) 2 _) 4 _⟩
    · rw [if_neg hle] at hfin2
      have hfh := Lib.hid hfin2
      have hadd := Lib.hid (fun W => w_add s.full (N - (s.burst - s.held)) W ⟨by omega, by omega⟩ ⟨by omega, by omega⟩)
      clear hfin2
      go_enter Try.func12, Try.ntmps12
      go_wp2_with fail
      refine (hmul.out _).mono ?_
      rintro e w' ⟨rfl, rfl⟩
      go_wp2_with fail
      go_quiet (fail)
      go_wp2_with fail
      refine (hadd.out _).mono ?_
      rintro e w' ⟨rfl, rfl⟩
      go_wp2_with fail
      go_end0
      rw [hfh.out]
      refine ⟨rfl, ((hsh.out.s2 (s.held + (s.burst - s.held))).s4 _).to (by simp only; congr 1; omega), only_set (only_set (only_drewN (only_refl _ _) _) 2 _) 4 _⟩
end Go.Proofs.Ytchpiiccdoejdaa

/- The contracts of package delta's Reader: Left, Bad, Get. Conditions: its state lies at the pointer. -/
import Derived.Test.YtdpmhfpoendooaaDeltaMid
namespace Go.Proofs.Ytdpmhfpoendooaa
open Go.RowKit
/-- bit j of bytes -/
def obF (D : Nat → Nat) (j : Nat) : Nat := D (j / 8) / 2 ^ (7 - j % 8) % 2
/-- the number of k bits from a on -/
def nuF (β : Nat → Nat) (a : Nat) : Nat → Nat
  | 0 => 0
  | k + 1 => 2 * nuF β a k + β (a + k)
theorem ob_bit (D : Nat → Nat) (j : Nat) : obF D j ≤ 1 := by unfold obF; omega
theorem nu_next (β : Nat → Nat) (a k : Nat) : nuF β a (k + 1) = 2 * nuF β a k + β (a + k) := by rw [nuF]
theorem nu_zero (β : Nat → Nat) (a : Nat) : nuF β a 0 = 0 := by rw [nuF]
theorem nu_lt (β : Nat → Nat) (h : Bit β) (a k : Nat) : nuF β a k < 2 ^ k := by
  induction k with
  | zero => rw [nuF]; decide
  | succ k ih => rw [nuF, Nat.pow_succ]; have := h (a + k); omega
theorem nu_63 (β : Nat → Nat) (h : Bit β) (a k : Nat) (hk : k < 64) : nuF β a k < 9223372036854775808 :=
  Nat.lt_of_lt_of_le (nu_lt β h a k) (Nat.le_trans (Nat.pow_le_pow_right (by decide) (show k ≤ 63 by omega)) (by decide))
theorem and1_u8 (x : Nat) (hx : x < 256) : bits .and .u8 (x : Int) 1 = ((x % 2 : Nat) : Int) := by
  show IntKind.u8.wrap ((BitVec.ofInt 8 (x : Int) &&& BitVec.ofInt 8 1).toNat : Int) = _
  have e1 : (BitVec.ofInt 8 (x : Int)).toNat = x := by rw [BitVec.toNat_ofInt]; omega
  have e2 : (BitVec.ofInt 8 1).toNat = 1 := by decide
  rw [BitVec.toNat_and, e1, e2, Nat.and_one_is_mod, IntKind.wrap_u8]
  omega
theorem or_u64 (a b : Nat) (ha : a < 18446744073709551616) (hb : b < 18446744073709551616) : bits .or .u64 (a : Int) (b : Int) = ((a ||| b : Nat) : Int) := by
  show IntKind.u64.wrap ((BitVec.ofInt 64 (a : Int) ||| BitVec.ofInt 64 (b : Int)).toNat : Int) = _
  have e1 : (BitVec.ofInt 64 (a : Int)).toNat = a := by rw [BitVec.toNat_ofInt]; omega
  have e2 : (BitVec.ofInt 64 (b : Int)).toNat = b := by rw [BitVec.toNat_ofInt]; omega
  have h : a ||| b < 18446744073709551616 := Nat.or_lt_two_pow (n := 64) ha hb
  rw [BitVec.toNat_or, e1, e2, IntKind.wrap_u64]
  omega
theorem or_twice (v b : Nat) (hv : v < 9223372036854775808) (hb : b ≤ 1) : bits .or .u64 ((v : Int) * 2) (b : Int) = ((2 * v + b : Nat) : Int) := by
  have e : ((v : Int) * 2) = ((2 * v : Nat) : Int) := by omega
  rw [e, or_u64 _ _ (by omega) (by omega)]
  have := Nat.two_pow_add_eq_or_of_lt (b := b) (i := 1) (by omega) v
  rw [show 2 ^ 1 * v = 2 * v by omega] at this
  rw [← this]
/-- a reader at p over a row of its own -/
structure RdAt (w : World) (p g c L q : Nat) (bad : Bool) (D : Nat → Nat) : Prop where
  st : w.heap[p]? = some (.cells #[.slice (some ⟨g, 0, none⟩) L c, .int .i64 (q : Nat), .bool bad] 66 (0, 0))
  row : BRow w g L D
  ne : g ≠ p
def RdPost (w : World) (p g c L q : Nat) (bad : Bool) (D : Nat → Nat) (v : Value) (e : Ending) (w' : World) : Prop :=
  e = .returned v ∧ RdAt w' p g c L q bad D ∧ w.grownBy w' (some p)
theorem BRow.stay {w w' : World} {g : Nat} {n : Nat} {D : Nat → Nat} (h : BRow w g n D) (e : w'.heap[g]? = w.heap[g]?) : BRow w' g n D := by
  obtain ⟨C, h1, h2, h3⟩ := h
  exact ⟨C, e.trans h1, h2, h3⟩
theorem RdAt.set {w : World} {p g c L q : Nat} {bad : Bool} {D : Nat → Nat} (h : RdAt w p g c L q bad D) (q' : Nat) : RdAt (w.setCell ⟨p, 1, none⟩ (.int .i64 (q' : Nat))) p g c L q' bad D :=
  ⟨blk_set h.st 1 _, BRow.stay h.row (heap_setCell_other _ _ _ _ h.ne), h.ne⟩
theorem RdAt.setBad {w : World} {p g c L q : Nat} {bad : Bool} {D : Nat → Nat} (h : RdAt w p g c L q bad D) : RdAt (w.setCell ⟨p, 2, none⟩ (.bool true)) p g c L q true D :=
  ⟨blk_set h.st 2 _, BRow.stay h.row (heap_setCell_other _ _ _ _ h.ne), h.ne⟩
theorem RdAt.drewN {w : World} {p g c L q : Nat} {bad : Bool} {D : Nat → Nat} (h : RdAt w p g c L q bad D) (n : Nat) : RdAt (w.drewN n) p g c L q bad D := ⟨h.st, h.row, h.ne⟩
attribute [local irreducible] OwnB byF apF bitF putF ctF bsF gmF gmN nbF chF chN enN enB dlF lastF pxF obF nuF
set_option maxHeartbeats 1000000 in
theorem d_left (p g c L q : Nat) (bad : Bool) (D : Nat → Nat) (w : World) (hr : RdAt w p g c L q bad D) (hL : L ≤ 1000000) (hq : q ≤ 8 * L) :
    Calls Try.prog 20 #[.pointer (some ⟨p, 0, none⟩)] w (fun e w' => e = .returned (.int .i64 (8 * (L : Int) - (q : Int))) ∧ ∃ n, w' = w.drewN n) := by
  have c0 : w.cell? ⟨p, 0, none⟩ = some (.slice (some ⟨g, 0, none⟩) L c) := (cell_of_block hr.st).trans rfl
  have c1 : w.cell? ⟨p, 1, none⟩ = some (.int .i64 (q : Nat)) := (cell_of_block hr.st).trans rfl
  have e1 : IntKind.i64.wrap (8 * (L : Int)) = 8 * (L : Int) := IntWalk.i64_in _ (by omega)
  have e2 : IntKind.i64.wrap (8 * (L : Int) - (q : Int)) = 8 * (L : Int) - (q : Int) := IntWalk.i64_in _ (by omega)
  clear hr
  go_enter Try.func20, Try.ntmps20
  go_upto_region 1 with (fail)
  go_quiet (fail)
  go_wp2_with fail
  go_ret
  exact ⟨rfl, _, rfl⟩
theorem d_bad (p g c L q : Nat) (bad : Bool) (D : Nat → Nat) (w : World) (hr : RdAt w p g c L q bad D) :
    Calls Try.prog 21 #[.pointer (some ⟨p, 0, none⟩)] w (fun e w' => e = .returned (.bool bad) ∧ w = w') := by
  have c2 : w.cell? ⟨p, 2, none⟩ = some (.bool bad) := (cell_of_block hr.st).trans rfl
  clear hr
  go_enter Try.func21, Try.ntmps21
  go_wp2_with fail
  go_ret
  exact ⟨rfl, rfl⟩
theorem ob_at (D : Nat → Nat) (j : Nat) (h : D (j / 8) < 256) : bits .and .u8 ((D (j / 8) : Nat) / (2 : Int) ^ (7 - j % 8)) 1 = ((obF D j : Nat) : Int) := by
  rw [cast_pow]
  unfold obF
  exact and1_u8 _ (Nat.lt_of_le_of_lt (Nat.div_le_self _ _) h)
set_option maxHeartbeats 2000000 in
theorem d_get (p g c L q : Nat) (D : Nat → Nat) (k : Int) (w : World) (hr : RdAt w p g c L q false D) (hD : ∀ j, D j < 256) (hL : L ≤ 1000000) (N : Nat) (hN : clampZ k 0 64 = (N : Int)) (hq : q + N ≤ 8 * L) :
    Calls Try.prog 25 #[.pointer (some ⟨p, 0, none⟩), .int .i64 k] w (RdPost w p g c L (q + N) false D (.int .u64 (nuF (obF D) q N : Nat))) := by
  have kc := Lib.hid (w_clamp k 0 64 w)
  have hbd := clampZ_bd k 0 64 (by omega)
  rw [hN] at kc hbd
  have kl := Lib.hid (d_left p g c L q false D w hr hL (by omega))
  have c2 : w.cell? ⟨p, 2, none⟩ = some (.bool false) := (cell_of_block hr.st).trans rfl
  have d0 : decide ((N : Int) > 8 * (L : Int) - (q : Int)) = false := decide_eq_false (by omega)
  have d0' : decide (8 * (L : Int) - (q : Int) < (N : Int)) = false := decide_eq_false (by omega)
  have hrh := Lib.hid hr
  have hDh := Lib.hid hD
  have hob := Lib.hid (fun j => ob_bit D j)
  have hnx := Lib.hid (fun j => nu_next (obF D) q j)
  have hn63 := Lib.hid (fun j h => nu_63 (obF D) (fun j => ob_bit D j) q j h)
  have hat := Lib.hid (fun j => ob_at D j (hD _))
  have hn0 := nu_zero (obF D) q
  have hN2 : N ≤ 64 := by omega
  clear hr hN hbd hD
  go_enter Try.func25, Try.ntmps25
  go_wp2_with fail
  refine kc.out.mono ?_
  rintro e w' ⟨rfl, rfl⟩
  go_wp2_with fail
  refine kl.out.mono ?_
  rintro e w1 ⟨rfl, x, rfl⟩
  have hr1 := Lib.hid (hrh.out.drewN x)
  have hg1 := Lib.hid (only_drewN (only_refl w (some p)) x)
  go_wp2_with fail
  go_loopw [5, 22] (fun vv iv wr => ∃ j : Nat, j ≤ N ∧ vv = .int .u64 (nuF (obF D) q j : Nat) ∧ iv = .int .i64 (j : Nat) ∧ Hid (RdAt wr p g c L (q + j) false D) ∧ Hid (w.grownBy wr (some p))) (fun _ iv _ => N - (intOf iv).toNat)
  case atStart => exact ⟨0, Nat.zero_le _, by rw [hn0]; rfl, rfl, hr1, hg1⟩
  case round =>
    obtain ⟨j, hj, rfl, rfl, hR, hG⟩ := hrel
    by_cases hjN : j < N
    · have d1 : decide ((j : Int) < (N : Int)) = true := decide_eq_true (by omega)
      have e0 := hnx.out j
      have e1 := hn63.out j (by omega)
      have hqj : q + (j + 1) = (q + j) + 1 := by omega
      have hqL : (q + j) / 8 < L := by omega
      generalize q + j = Q at *
      have c0 : wr.cell? ⟨p, 0, none⟩ = some (.slice (some ⟨g, 0, none⟩) L c) := (cell_of_block hR.out.st).trans rfl
      have c1 : wr.cell? ⟨p, 1, none⟩ = some (.int .i64 (Q : Nat)) := (cell_of_block hR.out.st).trans rfl
      have f1 : wr.frozen? ⟨p, 1, none⟩ = false := frozen_of_row wr p 1 _ _ hR.out.st
      have xb := FRow.cell hR.out.row (Q / 8) hqL
      have q1 : (Q : Int).tdiv 8 = (Q : Int) / 8 := Int.tdiv_eq_ediv_of_nonneg (by omega)
      have q2 : IntKind.i64.wrap ((Q : Int) / 8) = (Q : Int) / 8 := IntWalk.i64_in _ (by omega)
      have q3 : (Q : Int) / 8 < (L : Int) := by omega
      have q4 : 0 ≤ (Q : Int) / 8 := by omega
      have q5 : ((Q : Int) / 8).toNat = Q / 8 := by omega
      have q6 : (Q : Int).tmod 8 = (Q : Int) % 8 := Int.tmod_eq_emod_of_nonneg (by omega)
      have q7 : IntKind.i64.wrap ((Q : Int) % 8) = (Q : Int) % 8 := IntWalk.i64_in _ (by omega)
      have q8 : IntKind.i64.wrap (7 - (Q : Int) % 8) = 7 - (Q : Int) % 8 := IntWalk.i64_in _ (by omega)
      have q9 : (7 - (Q : Int) % 8).toNat = 7 - Q % 8 := by omega
      have q10 : ¬ 7 - (Q : Int) % 8 < 0 := by omega
      have hb := hat.out Q
      have hd8 := hDh.out (Q / 8)
      have hb1 := hob.out Q
      generalize obF D Q = b at *
      generalize nuF (obF D) q j = v at *
      obtain ⟨v1, hv1⟩ : ∃ v1, nuF (obF D) q (j + 1) = v1 := ⟨_, rfl⟩
      rw [hv1] at e0
      have hv1h := Lib.hid hv1
      clear hv1
      have hor := or_twice v b e1 hb1
      rw [← e0] at hor
      go_upto_region 8 with (fail)
      go_quiet (fail)
      have hRd := Lib.hid (hR.out.drewN nq)
      have hGd := Lib.hid (only_drewN hG.out nq)
      have c1d : (wr.drewN nq).cell? ⟨p, 1, none⟩ = some (.int .i64 (Q : Nat)) := c1
      have f1d : (wr.drewN nq).frozen? ⟨p, 1, none⟩ = false := f1
      generalize wr.drewN nq = wd at *
      have hRs := Lib.hid (hRd.out.set (Q + 1))
      have hGs := Lib.hid (only_set hGd.out 1 (.int .i64 ((Q : Int) + 1)))
      rw [show ((Q + 1 : Nat) : Int) = (Q : Int) + 1 by omega] at hRs
      have hvv : (v1 : Int) = 2 * (v : Int) + (b : Int) := by omega
      go_wp2_with fail
      go_roundw
      case rel => exact ⟨j + 1, by omega, by rw [hv1h.out, hvv], by go_num, by rw [hqj]; exact hRs, hGs⟩
      case measure => simp [intOf]; omega
    · obtain rfl : j = N := by omega
      have d1 : decide ((j : Int) < (j : Int)) = false := by simp
      go_wp2_with fail
      go_ret
      exact ⟨rfl, hR.out, hG.out⟩
set_option maxHeartbeats 1000000 in
theorem d_get_no (p g c L q : Nat) (bad : Bool) (D : Nat → Nat) (k : Int) (w : World) (hr : RdAt w p g c L q bad D) (hL : L ≤ 1000000) (N : Nat) (hN : clampZ k 0 64 = (N : Int)) (hq : q ≤ 8 * L) (hno : bad = true ∨ 8 * L < q + N) :
    Calls Try.prog 25 #[.pointer (some ⟨p, 0, none⟩), .int .i64 k] w (RdPost w p g c L q true D (.int .u64 0)) := by
  have kc := Lib.hid (w_clamp k 0 64 w)
  have hbd := clampZ_bd k 0 64 (by omega)
  rw [hN] at kc hbd
  have kl := Lib.hid (d_left p g c L q bad D w hr hL hq)
  have c2 : w.cell? ⟨p, 2, none⟩ = some (.bool bad) := (cell_of_block hr.st).trans rfl
  have f2 : w.frozen? ⟨p, 2, none⟩ = false := frozen_of_row w p 2 _ _ hr.st
  have hrh := Lib.hid hr
  have hN2 : N ≤ 64 := by omega
  clear hr hN hbd
  cases bad with
  | true =>
    have hs := Lib.hid (hrh.out.setBad)
    have hg := Lib.hid (only_set (only_refl w (some p)) 2 (.bool true))
    go_enter Try.func25, Try.ntmps25
    go_wp2_with fail
    refine kc.out.mono ?_
    rintro e w' ⟨rfl, rfl⟩
    go_wp2_with fail
    go_ret
    exact ⟨rfl, hs.out, hg.out⟩
  | false =>
    have hno2 : 8 * L < q + N := by rcases hno with h | h; cases h; exact h
    have d0 : decide ((N : Int) > 8 * (L : Int) - (q : Int)) = true := decide_eq_true (by omega)
    have d0' : decide (8 * (L : Int) - (q : Int) < (N : Int)) = true := decide_eq_true (by omega)
    clear hno
    go_enter Try.func25, Try.ntmps25
    go_wp2_with fail
    refine kc.out.mono ?_
    rintro e w' ⟨rfl, rfl⟩
    go_wp2_with fail
    refine kl.out.mono ?_
    rintro e w1 ⟨rfl, x, rfl⟩
    have hs := Lib.hid ((hrh.out.drewN x).setBad)
    have hg := Lib.hid (only_set (only_drewN (only_refl w (some p)) x) 2 (.bool true))
    have c2d : (w.drewN x).cell? ⟨p, 2, none⟩ = some (.bool false) := c2
    have f2d : (w.drewN x).frozen? ⟨p, 2, none⟩ = false := f2
    clear c2 f2
    generalize w.drewN x = wd at *
    go_wp2_with fail
    go_ret
    exact ⟨rfl, hs.out, hg.out⟩
end Go.Proofs.Ytdpmhfpoendooaa

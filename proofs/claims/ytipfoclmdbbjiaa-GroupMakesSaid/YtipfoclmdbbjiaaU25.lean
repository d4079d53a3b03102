import Derived.Test.YtipfoclmdbbjiaaU24
import Derived.Test.YtipfoclmdbbjiaaU04
import Derived.Deep.RegionHeld3
/- The contracts of package stats and of the document's answer for it: what marks and trips do to a way's state, and what it tells. Conditions: the state lies at the pointer, or comes by value; its numbers are as small as marks and trips leave them. -/
namespace Go.Proofs.Ytipfoclmdbbjiaa
open Go.RowKit
/-! ### the plain law -/
structure StS where
  loss : Int
  rtt : Int
  var : Int
  marks : Int
  trips : Int
def stA (s : StS) : Array Value := #[.int .i64 s.loss, .int .i64 s.rtt, .int .i64 s.var, .int .i64 s.marks, .int .i64 s.trips]
def z0T : StS := ⟨0, 0, 0, 0, 0⟩
/-- numbers that marks and trips leave -/
structure StOk (s : StS) (c : Int) : Prop where
  l0 : 0 ≤ s.loss
  l1 : s.loss ≤ 65535
  r0 : 0 ≤ s.rtt
  r1 : s.rtt ≤ 16000
  v0 : 0 ≤ s.var
  v1 : s.var ≤ 16000
  m0 : 0 ≤ s.marks
  m1 : s.marks ≤ c
  t0 : 0 ≤ s.trips
  t1 : s.trips ≤ c
/-- a share of the way to another number, rounded down -/
def twZ (n uu sh : Int) : Int := n + (uu - n) / sh
set_option maxRecDepth 100000 in
theorem floorZ_pos (a b : Int) (hb : 0 < b) (h1 : -9223372036854775808 ≤ a) (h2 : a ≤ 9223372036854775807) : floorZ a b = a / b := by
  unfold floorZ
  rw [if_neg (by omega), Int.fdiv_eq_ediv_of_nonneg _ (by omega)]
  have h3 : a / b ≤ max a 0 := by
    rcases Int.le_total 0 a with h | h
    · have := Int.ediv_le_self b h; omega
    · have := Int.ediv_nonpos_of_nonpos_of_neg h hb; omega
  have h4 : min a 0 ≤ a / b := by
    rcases Int.le_total 0 a with h | h
    · have := Int.ediv_nonneg h (show 0 ≤ b by omega); omega
    · have h5 : a * b ≤ a * 1 := Int.mul_le_mul_of_nonpos_left h (by omega)
      have : a ≤ a / b := Int.le_ediv_of_mul_le hb (by omega)
      omega
  exact satZ_in _ (by omega) (by omega)
set_option maxRecDepth 100000 in
theorem twZ_bd (n uu sh lo hi : Int) (hs : 0 < sh) (h1 : lo ≤ n) (h2 : n ≤ hi) (h3 : lo ≤ uu) (h4 : uu ≤ hi) : lo ≤ twZ n uu sh ∧ twZ n uu sh ≤ hi := by
  unfold twZ
  have hd : uu - n = sh * ((uu - n) / sh) + (uu - n) % sh := by have := Int.mul_ediv_add_emod (uu - n) sh; omega
  have hr := Int.emod_nonneg (uu - n) (show sh ≠ 0 by omega)
  have hr2 := Int.emod_lt_of_pos (uu - n) hs
  rcases Int.le_total 0 (uu - n) with h | h
  · have h5 := Int.ediv_nonneg h (show 0 ≤ sh by omega)
    have h6 := Int.ediv_le_self sh h
    omega
  · have h5 := Int.ediv_nonpos_of_nonpos_of_neg h hs
    have h6 : uu - n ≤ (uu - n) / sh := by
      refine Int.le_ediv_of_mul_le hs ?_
      have h5 : (uu - n) * sh ≤ (uu - n) * 1 := Int.mul_le_mul_of_nonpos_left h (by omega)
      omega
    omega
def stMark (s : StS) (lost : Bool) : StS := { s with loss := twZ s.loss (if lost then 65535 else 0) 16, marks := s.marks + 1 }
def tick8 (ticks : Int) : Int := 8 * clampZ ticks 0 2000
set_option maxRecDepth 100000 in
theorem tick8_bd (t : Int) : 0 ≤ tick8 t ∧ tick8 t ≤ 16000 := by unfold tick8 clampZ; omega
def stTrip (s : StS) (ticks : Int) : StS :=
  if s.trips = 0 then { s with rtt := tick8 ticks, var := tick8 ticks / 2, trips := s.trips + 1 }
  else { s with rtt := twZ s.rtt (tick8 ticks) 8, var := twZ s.var ((tick8 ticks - s.rtt).natAbs : Int) 4, trips := s.trips + 1 }
set_option maxRecDepth 100000 in
theorem stMark_ok (s : StS) (c : Int) (lost : Bool) (h : StOk s c) : StOk (stMark s lost) (c + 1) := by
  obtain ⟨l0, l1, r0, r1, v0, v1, m0, m1, t0, t1⟩ := h
  have := twZ_bd s.loss (if lost then 65535 else 0) 16 0 65535 (by omega) l0 l1 (by cases lost <;> simp) (by cases lost <;> simp)
  exact ⟨this.1, this.2, r0, r1, v0, v1, by simp only [stMark]; omega, by simp only [stMark]; omega, t0, by simp only [stMark]; omega⟩
set_option maxRecDepth 100000 in
theorem stTrip_ok (s : StS) (c t : Int) (h : StOk s c) : StOk (stTrip s t) (c + 1) := by
  obtain ⟨l0, l1, r0, r1, v0, v1, m0, m1, t0, t1⟩ := h
  have hb := tick8_bd t
  unfold stTrip
  split
  · exact ⟨l0, l1, hb.1, hb.2, by simp only; omega, by simp only; omega, m0, by simp only; omega, by simp only; omega, by simp only; omega⟩
  · have h1 := twZ_bd s.rtt (tick8 t) 8 0 16000 (by omega) r0 r1 hb.1 hb.2
    have h2 := twZ_bd s.var ((tick8 t - s.rtt).natAbs : Int) 4 0 16000 (by omega) v0 v1 (by omega) (by omega)
    exact ⟨l0, l1, h1.1, h1.2, h2.1, h2.2, m0, by simp only; omega, by simp only; omega, by simp only; omega⟩
attribute [local irreducible] twZ tick8 clampZ floorZ satZ
/-! ### toward -/
set_option maxRecDepth 100000 in
theorem tw_of (n uu sh : Int) (h : floorZ (uu - n) sh = (uu - n) / sh) : n + floorZ (uu - n) sh = twZ n uu sh := by rw [h]; unfold twZ; rfl
set_option maxRecDepth 100000 in
theorem flo_bd (n uu sh : Int) (hs : 0 < sh) (h1 : -1000000 ≤ n) (h2 : n ≤ 1000000) (h3 : -1000000 ≤ uu) (h4 : uu ≤ 1000000) : floorZ (uu - n) sh = (uu - n) / sh ∧ -2000000 ≤ floorZ (uu - n) sh ∧ floorZ (uu - n) sh ≤ 2000000 := by
  have e := floorZ_pos (uu - n) sh hs (by omega) (by omega)
  have h := twZ_bd n uu sh (-1000000) 1000000 hs h1 h2 h3 h4
  unfold twZ at h
  rw [e]
  exact ⟨rfl, by omega, by omega⟩
def TwPost (W : World) (n uu sh : Int) (e : Ending) (W' : World) : Prop := e = .returned (.int .i64 (twZ n uu sh)) ∧ W = W'
/-! ### the state in memory -/
def StAt (w : World) (p : Nat) (s : StS) : Prop := w.heap[p]? = some (.cells (stA s) 137 (0, 0))
set_option maxRecDepth 100000 in
theorem StAt.lt {w : World} {p : Nat} {s : StS} (h : StAt w p s) : p < w.heap.size := (Array.getElem?_eq_some_iff.1 h).1
set_option maxRecDepth 100000 in
theorem StAt.c0 {w : World} {p : Nat} {s : StS} (h : StAt w p s) : w.cell? ⟨p, 0, none⟩ = some (.int .i64 s.loss) := by rw [cell_of_block h]; rfl
set_option maxRecDepth 100000 in
theorem StAt.c1 {w : World} {p : Nat} {s : StS} (h : StAt w p s) : w.cell? ⟨p, 1, none⟩ = some (.int .i64 s.rtt) := by rw [cell_of_block h]; rfl
set_option maxRecDepth 100000 in
theorem StAt.c2 {w : World} {p : Nat} {s : StS} (h : StAt w p s) : w.cell? ⟨p, 2, none⟩ = some (.int .i64 s.var) := by rw [cell_of_block h]; rfl
set_option maxRecDepth 100000 in
theorem StAt.c3 {w : World} {p : Nat} {s : StS} (h : StAt w p s) : w.cell? ⟨p, 3, none⟩ = some (.int .i64 s.marks) := by rw [cell_of_block h]; rfl
set_option maxRecDepth 100000 in
theorem StAt.c4 {w : World} {p : Nat} {s : StS} (h : StAt w p s) : w.cell? ⟨p, 4, none⟩ = some (.int .i64 s.trips) := by rw [cell_of_block h]; rfl
set_option maxRecDepth 100000 in
theorem StAt.fr {w : World} {p : Nat} {s : StS} (h : StAt w p s) (i : Nat) : w.frozen? ⟨p, i, none⟩ = false := frozen_of_row w p i _ _ h
set_option maxRecDepth 100000 in
theorem StAt.s0 {w : World} {p : Nat} {s : StS} (h : StAt w p s) (x : Int) : StAt (w.setCell ⟨p, 0, none⟩ (.int .i64 x)) p { s with loss := x } := blk_set h 0 _
set_option maxRecDepth 100000 in
theorem StAt.s1 {w : World} {p : Nat} {s : StS} (h : StAt w p s) (x : Int) : StAt (w.setCell ⟨p, 1, none⟩ (.int .i64 x)) p { s with rtt := x } := blk_set h 1 _
set_option maxRecDepth 100000 in
theorem StAt.s2 {w : World} {p : Nat} {s : StS} (h : StAt w p s) (x : Int) : StAt (w.setCell ⟨p, 2, none⟩ (.int .i64 x)) p { s with var := x } := blk_set h 2 _
set_option maxRecDepth 100000 in
theorem StAt.s3 {w : World} {p : Nat} {s : StS} (h : StAt w p s) (x : Int) : StAt (w.setCell ⟨p, 3, none⟩ (.int .i64 x)) p { s with marks := x } := blk_set h 3 _
set_option maxRecDepth 100000 in
theorem StAt.s4 {w : World} {p : Nat} {s : StS} (h : StAt w p s) (x : Int) : StAt (w.setCell ⟨p, 4, none⟩ (.int .i64 x)) p { s with trips := x } := blk_set h 4 _
def StPost (W : World) (p : Nat) (s : StS) (e : Ending) (W' : World) : Prop := e = .returned (.tuple #[]) ∧ StAt W' p s ∧ W.grownBy W' (some p)
end Go.Proofs.Ytipfoclmdbbjiaa

/- The contracts of package stats' Trip, Wait, Score, Better, Need, and of the document's answer. Conditions: the state's numbers are as small as marks and trips leave them. -/
namespace Go.Proofs.Ytipfoclmdbbjiaa
open Go.RowKit
attribute [local irreducible] twZ tick8 clampZ floorZ satZ
set_option maxRecDepth 100000 in
theorem tick8_def (t : Int) : tick8 t = 8 * clampZ t 0 2000 := by unfold tick8; rfl
set_option maxRecDepth 100000 in
theorem clamp_bd2 (t : Int) : 0 ≤ clampZ t 0 2000 ∧ clampZ t 0 2000 ≤ 2000 := clampZ_bd t 0 2000 (by omega)
set_option maxRecDepth 100000 in
theorem abs_bd (t : Int) (h1 : -16000 ≤ t) (h2 : t ≤ 16000) : satZ (t.natAbs : Int) = (t.natAbs : Int) ∧ 0 ≤ satZ (t.natAbs : Int) ∧ satZ (t.natAbs : Int) ≤ 16000 := by
  rw [satZ_in _ (by omega) (by omega)]; exact ⟨rfl, by omega, by omega⟩
/-! ### the document's -/
def StRet (W : World) (s : StS) (e : Ending) (W' : World) : Prop := e = .returned (.agg (stA s)) ∧ Below W.heap.size W W'
set_option maxRecDepth 100000 in
theorem rst_info (s : StS) : (Try.prog.info? 135).map (·.size) = some (stA s).size := by
  have h : (Try.prog.info? 135).map (·.size) = some 5 := by kernel_rfl
  rw [h]; rfl
end Go.Proofs.Ytipfoclmdbbjiaa

/- The contracts of package stats' Wait, Score, Better, Need, of the document's Trip, Wait, Score, Need, and of the law's Same. Conditions: the state's numbers are as small as marks and trips leave them. -/
namespace Go.Proofs.Ytipfoclmdbbjiaa
open Go.RowKit
attribute [local irreducible] twZ tick8 clampZ floorZ satZ
set_option maxRecDepth 100000 in
theorem clampZ_in (n lo hi : Int) (h1 : lo ≤ n) (h2 : n ≤ hi) : clampZ n lo hi = n := by unfold clampZ; omega
set_option maxRecDepth 100000 in
theorem w_clamp_in (n lo hi : Int) (w : World) (h1 : lo ≤ n) (h2 : n ≤ hi) :
    Calls Try.prog 66 #[.int .i64 n, .int .i64 lo, .int .i64 hi] w fun e w' => e = .returned (.int .i64 n) ∧ w = w' :=
  (w_clamp n lo hi w).mono fun _ _ ⟨h, h'⟩ => ⟨by rw [h, clampZ_in n lo hi h1 h2], h'⟩
set_option maxRecDepth 100000 in
theorem clamp2000 (t : Int) : min (max t 0) 2000 = clampZ t 0 2000 := by unfold clampZ; omega
set_option maxRecDepth 100000 in
theorem rst_info5 : (Try.prog.info? 135).map (·.size) = some 5 := by kernel_rfl
set_option maxRecDepth 100000 in
theorem st_eq {a b c d f : Int} {s : StS} (h1 : a = s.loss) (h2 : b = s.rtt) (h3 : c = s.var) (h4 : d = s.marks) (h5 : f = s.trips) : Ending.returned (.agg #[.int .i64 a, .int .i64 b, .int .i64 c, .int .i64 d, .int .i64 f]) = .returned (.agg (stA s)) := by
  subst h1 h2 h3 h4 h5; rfl
set_option maxRecDepth 100000 in
theorem tick8_is (t x : Int) (h : x = if t ≤ 0 then 0 else if t ≤ 2000 then 8 * t else 16000) : x = tick8 t := by
  subst h
  unfold tick8 clampZ
  split
  · omega
  · split <;> omega
set_option maxRecDepth 100000 in
theorem nat_abs_a (x : Int) (h : ¬ x < 0) : (x.natAbs : Int) = x := by omega
set_option maxRecDepth 100000 in
theorem nat_abs_b (x : Int) (h : x < 0) : (x.natAbs : Int) = -x := by omega
set_option maxRecDepth 100000 in
theorem int_val {a b : Int} (h : a = b) : Value.int .i64 a = Value.int .i64 b := by rw [h]
/-! ### Wait, Score -/
def waZ (s : StS) : Int := if s.trips = 0 then 50 else clampZ ((s.rtt + 4 * s.var + 7) / 8) 2 200
def scZ (s : StS) : Int := (65536 - s.loss) * 64 / (64 + s.rtt)
set_option maxRecDepth 100000 in
theorem wait_is (x n : Int) (h : x = if n < 2 then 2 else if n ≤ 200 then n else 200) : x = clampZ n 2 200 := by
  subst h
  unfold clampZ
  split
  · omega
  · split <;> omega
def ValPost (W : World) (v : Value) (e : Ending) (W' : World) : Prop := e = .returned v ∧ Below W.heap.size W W'
set_option maxRecDepth 100000 in
theorem sc_bd (s : StS) (c : Int) (ok : StOk s c) : 0 ≤ scZ s ∧ scZ s ≤ 65536 := by
  obtain ⟨l0, l1, r0, r1, v0, v1, m0, m1, t0, t1⟩ := ok
  unfold scZ
  refine ⟨Int.ediv_nonneg (by omega) (by omega), ?_⟩
  refine Int.ediv_le_of_le_mul (by omega) ?_
  have : 65536 * 64 ≤ 65536 * (64 + s.rtt) := Int.mul_le_mul_of_nonneg_left (by omega) (by omega)
  omega
end Go.Proofs.Ytipfoclmdbbjiaa

/- The contracts of the document's Score and Need, of package stats' Need and Better, and of the law's Same. Conditions: the state's numbers are as small as marks and trips leave them. -/
namespace Go.Proofs.Ytipfoclmdbbjiaa
open Go.RowKit
attribute [local irreducible] twZ tick8 clampZ floorZ satZ
/-- the least number of K that come to a -/
def cdZ (a K : Int) : Int := (a + K - 1) / K
set_option maxRecDepth 100000 in
theorem cdZ_neg (a K : Int) (hK : 0 < K) : -((-a) / K) = cdZ a K := by
  unfold cdZ
  have h := Int.mul_ediv_add_emod (-a) K
  have h1 := Int.emod_nonneg (-a) (show K ≠ 0 by omega)
  have h2 := Int.emod_lt_of_pos (-a) hK
  generalize (-a) / K = q at *
  generalize (-a) % K = r at *
  have e : a + K - 1 = (K - 1 - r) + K * (-q) := by rw [Int.mul_neg]; omega
  rw [e, Int.add_mul_ediv_left _ _ (by omega), Int.ediv_eq_zero_of_lt (by omega) (by omega)]
  omega
set_option maxRecDepth 100000 in
theorem cdZ_ge (a K : Int) (hK : 0 < K) : a ≤ cdZ a K * K := by
  unfold cdZ
  have h := Int.mul_ediv_add_emod (a + K - 1) K
  have h2 := Int.emod_lt_of_pos (a + K - 1) hK
  rw [Int.mul_comm]; omega
set_option maxRecDepth 100000 in
theorem cdZ_lt (a K : Int) (hK : 0 < K) : (cdZ a K - 1) * K < a := by
  unfold cdZ
  have h := Int.mul_ediv_add_emod (a + K - 1) K
  have h1 := Int.emod_nonneg (a + K - 1) (show K ≠ 0 by omega)
  rw [Int.sub_mul, Int.mul_comm]; omega
set_option maxRecDepth 100000 in
theorem cdZ_bd (a K : Int) (hK : 0 < K) (ha : 0 ≤ a) : 0 ≤ cdZ a K ∧ cdZ a K ≤ a := by
  unfold cdZ
  refine ⟨Int.ediv_nonneg (by omega) (by omega), ?_⟩
  by_cases h : a = 0
  · subst h
    rw [Int.ediv_eq_zero_of_lt (by omega) (by omega)]; omega
  · refine Int.ediv_le_of_le_mul hK ?_
    have : (a - 1) * 1 ≤ (a - 1) * K := Int.mul_le_mul_of_nonneg_left (by omega) (by omega)
    rw [Int.sub_mul a 1 K] at this
    omega
set_option maxRecDepth 100000 in
/-- below it too few come -/
theorem cdZ_few (a K n : Int) (hK : 0 < K) : n * K < a ↔ n < cdZ a K := by
  constructor
  · intro h
    have h2 := cdZ_ge a K hK
    exact Int.lt_of_mul_lt_mul_right (Int.lt_of_lt_of_le h h2) (by omega)
  · intro h
    have h1 := cdZ_lt a K hK
    have : n * K ≤ (cdZ a K - 1) * K := Int.mul_le_mul_of_nonneg_right (by omega) (by omega)
    omega
def ndZ (loss count limit : Int) : Int := clampZ (cdZ (max count 0 * 65536) (65536 - loss)) 0 (max limit 0)
attribute [local irreducible] cdZ
set_option maxRecDepth 100000 in
theorem w_mulq (q : Int) (w : World) (h0 : 0 ≤ q) (h1 : q ≤ 1000000) :
    Calls Try.prog 74 #[.int .i64 q, .int .i64 65536] w fun e w' => e = .returned (.int .i64 (q * 65536)) ∧ w = w' :=
  (w_mul q 65536 w ⟨by omega, by omega⟩ ⟨by omega, by omega⟩).mono fun _ _ ⟨h, h'⟩ => ⟨by rw [h, satZ_in _ (by omega) (by omega)], h'⟩
set_option maxRecDepth 100000 in
theorem w_floorq (q K : Int) (w : World) (h0 : 0 ≤ q) (h1 : q ≤ 100000000000) (hK : 0 < K) (hK2 : K ≤ 65536) :
    Calls Try.prog 73 #[.int .i64 (-q), .int .i64 K] w fun e w' => e = .returned (.int .i64 (-(cdZ q K))) ∧ w = w' :=
  (w_floor (-q) K w ⟨by omega, by omega⟩ ⟨by omega, by omega⟩).mono fun _ _ ⟨h, h'⟩ => ⟨by rw [h, floorZ_pos _ _ hK (by omega) (by omega), ← cdZ_neg q K hK, Int.neg_neg], h'⟩
set_option maxRecDepth 100000 in
theorem w_floor0 (K : Int) (w : World) (hK : 0 < K) (hK2 : K ≤ 65536) :
    Calls Try.prog 73 #[.int .i64 0, .int .i64 K] w fun e w' => e = .returned (.int .i64 0) ∧ w = w' :=
  (w_floor 0 K w ⟨by omega, by omega⟩ ⟨by omega, by omega⟩).mono fun _ _ ⟨h, h'⟩ => ⟨by rw [h, floorZ_pos _ _ hK (by omega) (by omega), Int.zero_ediv], h'⟩
set_option maxRecDepth 100000 in
theorem cdZ_0 (K : Int) (hK : 0 < K) : cdZ (0 * 65536) K = 0 := by unfold cdZ; exact Int.ediv_eq_zero_of_lt (by omega) (by omega)
set_option maxRecDepth 100000 in
theorem clamp_lim (x m limit : Int) (h : m = if limit < 0 then 0 else limit) : clampZ x 0 m = clampZ x 0 (max limit 0) := by
  have : m = max limit 0 := by subst h; split <;> omega
  rw [this]
set_option maxRecDepth 100000 in
set_option maxHeartbeats 1000000 in
theorem s_need_q (loss rtt var marks trips count limit q : Int) (w : World) (l0 : 0 ≤ loss) (l1 : loss ≤ 65535) (hq : q = if count < 0 then 0 else count) (h1 : count ≤ 1000000) (h2 : limit ≤ 9223372036854775807) :
    Calls Try.prog 67 #[.agg #[.int .i64 loss, .int .i64 rtt, .int .i64 var, .int .i64 marks, .int .i64 trips], .int .i64 count, .int .i64 limit] w (ValPost w (.int .i64 (clampZ (cdZ (q * 65536) (65536 - loss)) 0 (max limit 0)))) := by
  have hB : ∀ A, Below w.heap.size w (w.alloc A) := fun A => (Below.refl _ _).alloc (Nat.le_refl _) _
  have hBh := Lib.hid hB
  have hq0 : 0 ≤ q := by subst hq; split <;> omega
  have hq1 : q ≤ 1000000 := by subst hq; split <;> omega
  have hcb := cdZ_bd (q * 65536) (65536 - loss) (by omega) (by omega)
  obtain ⟨c0, c1⟩ := hcb
  have c2 : cdZ (q * 65536) (65536 - loss) ≤ 100000000000 := by omega
  have hcl := Lib.hid (fun m h => clamp_lim (cdZ (q * 65536) (65536 - loss)) m limit h)
  clear hB c1
  by_cases hc : count < 0
  · rw [if_pos hc] at hq
    subst hq
    have h00 := cdZ_0 (65536 - loss) (by omega)
    rw [h00] at hcl c0 c2 ⊢
    clear h00
    go_enter Try.func67, Try.ntmps67
    go_wp2_with fail
    refine (w_clamp_in loss 0 65535 _ (by omega) (by omega)).mono ?_
    rintro e w' ⟨rfl, rfl⟩
    go_wp2_with fail
    refine (w_mulq 0 _ (by omega) (by omega)).mono ?_
    rintro e w' ⟨rfl, rfl⟩
    go_wp2_with fail
    refine (w_floor0 (65536 - loss) _ (by omega) (by omega)).mono ?_
    rintro e w' ⟨rfl, rfl⟩
    go_wp2_with fail
    all_goals
      refine (w_clamp _ 0 _ _).mono ?_
      rintro e w' ⟨rfl, rfl⟩
      go_wp2_with fail
      go_ret
      exact ⟨ret_int (hcl.out _ (by split <;> (first | rfl | omega))), hBh.out _⟩
  · rw [if_neg hc] at hq
    subst hq
    go_enter Try.func67, Try.ntmps67
    go_wp2_with fail
    refine (w_clamp_in loss 0 65535 _ (by omega) (by omega)).mono ?_
    rintro e w' ⟨rfl, rfl⟩
    go_wp2_with fail
    refine (w_mulq q _ (by omega) (by omega)).mono ?_
    rintro e w' ⟨rfl, rfl⟩
    go_wp2_with fail
    refine (w_floorq (q * 65536) (65536 - loss) _ (by omega) (by omega) (by omega) (by omega)).mono ?_
    rintro e w' ⟨rfl, rfl⟩
    go_wp2_with fail
    all_goals
      refine (w_clamp _ 0 _ _).mono ?_
      rintro e w' ⟨rfl, rfl⟩
      go_wp2_with fail
      go_ret
      exact ⟨ret_int (hcl.out _ (by split <;> (first | rfl | omega))), hBh.out _⟩
set_option maxRecDepth 100000 in
theorem s_need (s : StS) (c count limit : Int) (w : World) (ok : StOk s c) (h1 : count ≤ 1000000) (h2 : limit ≤ 9223372036854775807) :
    Calls Try.prog 67 #[.agg (stA s), .int .i64 count, .int .i64 limit] w (ValPost w (.int .i64 (ndZ s.loss count limit))) := by
  have hq : max count 0 = if count < 0 then 0 else count := by split <;> omega
  unfold ndZ
  exact s_need_q s.loss s.rtt s.var s.marks s.trips count limit (max count 0) w ok.l0 ok.l1 hq h1 h2
end Go.Proofs.Ytipfoclmdbbjiaa

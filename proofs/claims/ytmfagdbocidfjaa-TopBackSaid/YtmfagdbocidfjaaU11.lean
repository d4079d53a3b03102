import Derived.Test.YtmfagdbocidfjaaU10
import Derived.Test.YtmfagdbocidfjaaU06
import Derived.Test.YtmfagdbocidfjaaU09
import Derived.Test.YtmfagdbocidfjaaU02
/- The contracts of package fixed's square, under, Root, Mul, Of. Conditions: the arguments are numbers of their kinds, as the callers have them. -/
namespace Go.Proofs.Ytmfagdbocidfjaa
open Go.RowKit
attribute [local irreducible] satZ
set_option maxRecDepth 100000 in
theorem sq_bd (n : Int) (h0 : 0 ≤ n) (h1 : n ≤ 1099511627776) : 0 ≤ n * n ∧ n * n ≤ 1208925819614629174706176 := by
  have := Int.mul_le_mul h1 h1 h0 (by omega)
  exact ⟨Int.mul_nonneg h0 h0, by omega⟩
set_option maxRecDepth 100000 in
theorem sq_parts (N : Int) (h0 : 0 ≤ N) (h1 : N ≤ 1208925819614629174706176) : hiZ N = N / 18446744073709551616 ∧ loZ N = N % 18446744073709551616 ∧ 0 ≤ hiZ N ∧ hiZ N ≤ 65536 ∧ 0 ≤ loZ N ∧ loZ N ≤ 18446744073709551615 := by
  unfold hiZ loZ wrap64
  omega
attribute [local irreducible] hiZ loZ
set_option maxRecDepth 100000 in
theorem under_law (n a : Int) (h0 : 0 ≤ n) (h1 : n ≤ 1099511627776) (_a0 : 0 ≤ a) (_a1 : a ≤ 9223372036854775807) :
    decide (n * n ≤ a * 65536) = (decide (hiZ (n * n) < a / 281474976710656) || (hiZ (n * n) == a / 281474976710656 && decide (loZ (n * n) ≤ a * 65536 % 18446744073709551616))) := by
  have hb := sq_bd n h0 h1
  obtain ⟨p0, p1, _⟩ := sq_parts (n * n) hb.1 hb.2
  rw [p0, p1]
  generalize n * n = N at *
  rw [Bool.eq_iff_iff]
  simp
  omega
set_option maxRecDepth 100000 in
theorem wrap_u64 (n : Int) : IntKind.u64.wrap n = n % 18446744073709551616 := by simp [IntKind.wrap, IntKind.signed, IntKind.bits]
end Go.Proofs.Ytmfagdbocidfjaa

/- More contracts of package word: Root, Log, Get. Conditions: the arguments are numbers of their kinds; the slice reads as the list named. -/
namespace Go.Proofs.Ytmfagdbocidfjaa
open Go.RowKit

/-! ### the root -/
def IsRoot (w r : Nat) : Prop := r ≤ 4294967295 ∧ r * r ≤ w ∧ (r = 4294967295 ∨ w < (r + 1) * (r + 1))
def RootPost (W : World) (x : Nat) (e : Ending) (W' : World) : Prop := ∃ r : Nat, IsRoot x r ∧ e = .returned (.int .u64 r) ∧ W = W'
set_option maxRecDepth 100000 in
theorem sq_le (m : Nat) (h : m ≤ 4294967295) : m * m ≤ 18446744065119617025 := Nat.mul_le_mul h h
/-! ### how many bits a word needs -/
def LogPost (W : World) (x : Nat) (e : Ending) (W' : World) : Prop := ∃ n : Nat, n ≤ 64 ∧ (x = 0 → n = 0) ∧ (x ≠ 0 → 1 ≤ n ∧ x / 2 ^ (n - 1) = 1) ∧ e = .returned (.int .i64 n) ∧ W = W'
set_option maxRecDepth 100000 in
theorem log_step (x k : Nat) : x / 2 ^ k / 2 = x / 2 ^ (k + 1) := by rw [Nat.pow_succ, Nat.div_div_eq_div_mul]
set_option maxRecDepth 100000 in
theorem log_cap (x k : Nat) (hx : x < 18446744073709551616) (h : x / 2 ^ k ≠ 0) : k < 64 := by
  by_cases hk : k < 64
  · exact hk
  · exfalso
    apply h
    apply Nat.div_eq_of_lt
    have : 2 ^ 64 ≤ 2 ^ k := Nat.pow_le_pow_right (by decide) (by omega)
    have h64 : (2 : Nat) ^ 64 = 18446744073709551616 := by decide
    omega
set_option maxRecDepth 100000 in
theorem log_end (x k : Nat) (h : x / 2 ^ k = 0) (hk : k ≠ 0) (hp : x / 2 ^ (k - 1) ≠ 0) : x / 2 ^ (k - 1) = 1 := by
  have h1 := log_step x (k - 1)
  rw [show k - 1 + 1 = k by omega, h] at h1
  omega
end Go.Proofs.Ytmfagdbocidfjaa

/- The contract of package fixed's Root. Conditions: the argument is an int64. -/
namespace Go.Proofs.Ytmfagdbocidfjaa
open Go.RowKit
def RtPost (W : World) (a : Int) (e : Ending) (W' : World) : Prop := ∃ r : Int, 0 ≤ r ∧ r < 1099511627776 ∧ r * r ≤ a * 65536 ∧ a * 65536 < (r + 1) * (r + 1) ∧ e = .returned (.int .i64 r) ∧ W = W'
set_option maxRecDepth 100000 in
theorem sq256 (m : Int) : m * 256 * (m * 256) = m * m * 65536 := by
  rw [Int.mul_assoc, Int.mul_left_comm 256 m, ← Int.mul_assoc]; rfl
set_option maxRecDepth 100000 in
theorem rt_low (n : Nat) (a : Int) (h : (n : Int) * n ≤ a) : ((n : Int) * 256) * ((n : Int) * 256) ≤ a * 65536 := by
  rw [sq256]; omega
set_option maxRecDepth 100000 in
theorem rt_high (n : Nat) (a : Int) (h : a < ((n : Int) + 1) * ((n : Int) + 1)) : a * 65536 < (((n : Int) + 1) * 256) * (((n : Int) + 1) * 256) := by
  rw [sq256]; omega
set_option maxRecDepth 100000 in
theorem rt_of (x n : Nat) (h : IsRoot x n) (hx : x ≤ 9223372036854775807) : (n : Int) * n ≤ (x : Int) ∧ (x : Int) < ((n : Int) + 1) * ((n : Int) + 1) ∧ n ≤ 4294967294 := by
  obtain ⟨h1, h2, h3⟩ := h
  have hne : n ≠ 4294967295 := by
    rintro rfl
    exact absurd (Nat.le_trans h2 hx) (by decide)
  rcases h3 with h3 | h3
  · exact absurd h3 hne
  · exact ⟨by exact_mod_cast h2, by exact_mod_cast h3, by omega⟩
attribute [local irreducible] satZ hiZ loZ IsRoot
end Go.Proofs.Ytmfagdbocidfjaa

/- The contracts of package fixed's Mul and Of, and of the document's Mul of layer 22. Conditions: the arguments are int64s. -/
namespace Go.Proofs.Ytmfagdbocidfjaa
open Go.RowKit
def fmulZ (z : Int) : Int := if 32768 ≤ hiZ z then 9223372036854775807 else if hiZ z < -32768 then -9223372036854775808 else hiZ z * 281474976710656 + loZ z / 65536
set_option maxRecDepth 100000 in
theorem fmul_sat (z : Int) (h1 : -85070591730234615865843651857942052864 ≤ z) (h2 : z ≤ 85070591730234615865843651857942052864) : fmulZ z = satZ (z / 65536) := by
  obtain ⟨e, l0, l1⟩ := wide_back z h1 h2
  unfold fmulZ satZ
  split
  · split
    · omega
    · split <;> omega
  · split
    · split
      · omega
      · split <;> omega
    · split
      · omega
      · split <;> omega
set_option maxRecDepth 100000 in
theorem or_parts (h l : Int) (h0 : -32768 ≤ h) (h1 : h < 32768) (l0 : 0 ≤ l) (l1 : l < 281474976710656) : bits .or .i64 (h * 281474976710656) l = h * 281474976710656 + l := by
  show IntKind.i64.wrap ((BitVec.ofInt 64 (h * 281474976710656) ||| BitVec.ofInt 64 l).toNat : Int) = _
  have e1 : (BitVec.ofInt 64 (h * 281474976710656)).toNat = 2 ^ 48 * (h % 65536).toNat := by
    rw [BitVec.toNat_ofInt]
    omega
  have e2 : (BitVec.ofInt 64 l).toNat = l.toNat := by
    rw [BitVec.toNat_ofInt]
    omega
  rw [BitVec.toNat_or, e1, e2, ← Nat.two_pow_add_eq_or_of_lt (by omega), IntKind.wrap_i64]
  omega
set_option maxRecDepth 100000 in
theorem lo_bd (z : Int) : 0 ≤ loZ z ∧ loZ z ≤ 18446744073709551615 := by unfold loZ; omega
set_option maxRecDepth 100000 in
theorem hi_bd (z : Int) : -9223372036854775808 ≤ hiZ z ∧ hiZ z ≤ 9223372036854775807 := by unfold hiZ wrap64; omega
attribute [local irreducible] satZ hiZ loZ
set_option maxRecDepth 100000 in
set_option maxHeartbeats 1000000 in
theorem f_mul (a b : Int) (w : World) (ha : I64 a) (hb : I64 b) :
    Calls Try.prog 76 #[.int .i64 a, .int .i64 b] w fun e w' => e = .returned (.int .i64 (fmulZ (a * b))) ∧ w = w' := by
  have hw := Lib.hid (w_wide a b w ha hb)
  obtain ⟨l0, l1⟩ := lo_bd (a * b)
  obtain ⟨h0, h1⟩ := hi_bd (a * b)
  unfold fmulZ
  clear ha hb
  generalize hiZ (a * b) = H at *
  generalize loZ (a * b) = L at *
  by_cases c1 : 32768 ≤ H
  · rw [if_pos c1]
    have d1 : decide (H ≥ 32768) = true := decide_eq_true c1
    go_enter Try.func76, Try.ntmps76
    go_wp2_with fail
    refine hw.out.mono ?_
    rintro e w' ⟨rfl, rfl⟩
    go_wp2_with fail
    go_ret
    exact ⟨rfl, rfl⟩
  rw [if_neg c1]
  have d1 : decide (H ≥ 32768) = false := decide_eq_false c1
  by_cases c2 : H < -32768
  · rw [if_pos c2]
    have d2 : decide (H < -32768) = true := decide_eq_true c2
    go_enter Try.func76, Try.ntmps76
    go_wp2_with fail
    refine hw.out.mono ?_
    rintro e w' ⟨rfl, rfl⟩
    go_wp2_with fail
    go_ret
    exact ⟨rfl, rfl⟩
  rw [if_neg c2]
  have d2 : decide (H < -32768) = false := decide_eq_false c2
  have hor := Lib.hid (or_parts H (L / 65536) (by omega) (by omega) (by omega) (by omega))
  go_enter Try.func76, Try.ntmps76
  go_wp2_with fail
  refine hw.out.mono ?_
  rintro e w' ⟨rfl, rfl⟩
  go_wp2_with fail
  go_ret
  exact ⟨ret_int (by rw [← hor.out]), rfl⟩
set_option maxRecDepth 100000 in
theorem aw_root (r : Int) (h0 : 0 ≤ r) (h1 : r * r ≤ 131072 * 65536) (h2 : 131072 * 65536 < (r + 1) * (r + 1)) : r = 92681 := by
  by_cases a : r ≤ 92680
  · have := Int.mul_le_mul (show r + 1 ≤ 92681 by omega) (show r + 1 ≤ 92681 by omega) (by omega) (by omega)
    omega
  · by_cases b : 92682 ≤ r
    · have := Int.mul_le_mul b b (by omega) (by omega)
      omega
    · omega
set_option maxRecDepth 100000 in
theorem aw_mul : fmulZ (98304 * 131072) = 196608 := by decide +kernel
set_option maxRecDepth 100000 in
theorem aw_of : satZ (2 * 65536) = 131072 := by decide +kernel
attribute [local irreducible] fmulZ
end Go.Proofs.Ytmfagdbocidfjaa

/- Whether two numbers are near each other. Conditions: both are 64-bit numbers. -/
namespace Go.Proofs.Ytmfagdbocidfjaa
open Go.RowKit
def nearZ (a b m : Int) : Bool := decide (0 ≤ m) && decide (satZ ((satZ (a - b)).natAbs) ≤ m)
set_option maxRecDepth 100000 in
theorem satZ_I (x : Int) : I64 (satZ x) := satZ_bd x
set_option maxRecDepth 100000 in
set_option maxHeartbeats 1000000 in
theorem f_near (a b m : Int) (w : World) (ha : I64 a) (hb : I64 b) :
    Calls Try.prog 96 #[.int .i64 a, .int .i64 b, .int .i64 m] w fun e w' => e = .returned (.bool (nearZ a b m)) ∧ w = w' := by
  have k1 := Lib.hid (w_sub a b w ha hb)
  have k2 := Lib.hid (w_abs (satZ (a - b)) w (satZ_I _))
  unfold nearZ
  clear ha hb
  generalize satZ ((satZ (a - b)).natAbs) = z2 at *
  generalize satZ (a - b) = z1 at *
  by_cases h : 0 ≤ m
  · have d : decide (0 ≤ m) = true := decide_eq_true h
    rw [d]
    go_enter Try.func96, Try.ntmps96
    go_wp2_with fail
    refine k1.out.mono ?_
    rintro e w' ⟨rfl, rfl⟩
    go_wp2_with fail
    refine k2.out.mono ?_
    rintro e w' ⟨rfl, rfl⟩
    go_wp2_with fail
    go_ret
    exact ⟨rfl, rfl⟩
  · have d : decide (0 ≤ m) = false := decide_eq_false h
    rw [d]
    go_enter Try.func96, Try.ntmps96
    go_wp2_with fail
    go_ret
    exact ⟨rfl, rfl⟩
end Go.Proofs.Ytmfagdbocidfjaa

/- A game's state as it lies in memory. Lemmas alone. -/
namespace Go.Proofs.Ytmfagdbocidfjaa
open Go.RowKit
def kdS (o : Nat) : Nat := if o = 1 then 1 else if 16 ≤ o ∧ o < 64 ∧ (o - 16) % 6 = 0 then 2 else 0
def cvS (o : Nat) (v : Int) : Value := match kdS o with
  | 1 => .int .u32 v
  | 2 => .bool (decide (v ≠ 0))
  | _ => .int .i64 v
def stA (S : Nat → Int) : Array Value := Array.ofFn (n := 66) (fun o => cvS o (S o))
def setS (S : Nat → Int) (o : Nat) (v : Int) : Nat → Int := fun j => if j = o then v else S j
set_option maxRecDepth 100000 in
theorem setS_same (S : Nat → Int) (o : Nat) (v : Int) : setS S o v o = v := if_pos rfl
set_option maxRecDepth 100000 in
theorem setS_ne (S : Nat → Int) {o j : Nat} (v : Int) (h : j ≠ o) : setS S o v j = S j := if_neg h
set_option maxRecDepth 100000 in
theorem stA_size (S : Nat → Int) : (stA S).size = 66 := by unfold stA; simp
set_option maxRecDepth 100000 in
theorem stA_get (S : Nat → Int) {o : Nat} (h : o < 66) : (stA S)[o]? = some (cvS o (S o)) := by unfold stA; simp [h]
set_option maxRecDepth 100000 in
theorem stA_set (S : Nat → Int) {o : Nat} (h : o < 66) (v : Int) : (stA S).setIfInBounds o (cvS o v) = stA (setS S o v) := by
  apply Array.ext_getElem?
  intro j
  rw [Array.getElem?_setIfInBounds]
  by_cases hj : j < 66
  · by_cases e : o = j
    · subst e
      rw [if_pos rfl, if_pos (by rw [stA_size]; exact h), stA_get _ h, setS_same]
    · rw [if_neg e, stA_get _ hj, stA_get _ hj, setS_ne _ _ (Ne.symm e)]
  · have hs : ∀ S : Nat → Int, (stA S)[j]? = none := fun S => Array.getElem?_eq_none (by rw [stA_size]; omega)
    rw [if_neg (by omega), hs, hs]
def StAt (w : World) (g : Nat) (S : Nat → Int) : Prop := w.heap[g]? = some (.cells (stA S) 49 (0, 0))
section
variable {w : World} {g : Nat} {S : Nat → Int}
set_option maxRecDepth 100000 in
theorem StAt.at (h : StAt w g S) {o : Nat} (ho : o < 66) : w.cell? ⟨g, o, none⟩ = some (cvS o (S o)) := (cell_of_block h).trans (stA_get S ho)
set_option maxRecDepth 100000 in
theorem cvS_int {o : Nat} (hk : kdS o = 0) (v : Int) : cvS o v = .int .i64 v := by unfold cvS; rw [hk]; rfl
set_option maxRecDepth 100000 in
theorem cvS_bool {o : Nat} (hk : kdS o = 2) (v : Int) : cvS o v = .bool (decide (v ≠ 0)) := by unfold cvS; rw [hk]; rfl
set_option maxRecDepth 100000 in
theorem cvS_seed (v : Int) : cvS 1 v = .int .u32 v := rfl
set_option maxRecDepth 100000 in
theorem StAt.int (h : StAt w g S) {o : Nat} (ho : o < 66) (hk : kdS o = 0) : w.cell? ⟨g, o, none⟩ = some (.int .i64 (S o)) := by rw [h.at ho, cvS_int hk]
set_option maxRecDepth 100000 in
theorem StAt.bool (h : StAt w g S) {o : Nat} (ho : o < 66) (hk : kdS o = 2) : w.cell? ⟨g, o, none⟩ = some (.bool (decide (S o ≠ 0))) := by rw [h.at ho, cvS_bool hk]
set_option maxRecDepth 100000 in
theorem StAt.seed (h : StAt w g S) : w.cell? ⟨g, 1, none⟩ = some (.int .u32 (S 1)) := h.at (by omega)
set_option maxRecDepth 100000 in
theorem StAt.fr (h : StAt w g S) (o : Nat) : w.frozen? ⟨g, o, none⟩ = false := frozen_of_row w g o _ _ h
set_option maxRecDepth 100000 in
theorem StAt.lt (h : StAt w g S) : g < w.heap.size := (Array.getElem?_eq_some_iff.1 h).1
set_option maxRecDepth 100000 in
theorem StAt.put (h : StAt w g S) {o : Nat} (ho : o < 66) (v : Int) {x : Value} (hx : x = cvS o v) : StAt (w.setCell ⟨g, o, none⟩ x) g (setS S o v) := by
  unfold StAt
  rw [blk_set h o x, hx, stA_set S ho]
set_option maxRecDepth 100000 in
theorem StAt.set (h : StAt w g S) {o : Nat} (ho : o < 66) (hk : kdS o = 0) (v : Int) : StAt (w.setCell ⟨g, o, none⟩ (.int .i64 v)) g (setS S o v) := h.put ho v (cvS_int hk v).symm
end
/-- all numbers are such as their types hold -/
def GOk (S : Nat → Int) : Prop := (∀ o, o < 66 → I64 (S o)) ∧ 0 ≤ S 1 ∧ S 1 < 4294967296
set_option maxRecDepth 100000 in
theorem GOk.set {S : Nat → Int} (h : GOk S) {o : Nat} {v : Int} (h1 : o ≠ 1) (hv : I64 v) : GOk (setS S o v) := by
  refine ⟨fun j hj => ?_, ?_⟩
  · by_cases e : j = o
    · subst e; rw [setS_same]; exact hv
    · rw [setS_ne _ _ e]; exact h.1 j hj
  · rw [setS_ne _ _ (Ne.symm h1)]; exact h.2
/-- what such a call leaves: one block's state, nothing else touched -/
def GPost (w : World) (g : Nat) (S : Nat → Int) (e : Ending) (w' : World) : Prop := e = .returned (.tuple #[]) ∧ StAt w' g S ∧ w.grownBy w' (some g)
end Go.Proofs.Ytmfagdbocidfjaa

import Derived.Test.YtipfoclmdbbjiaaU01
import Derived.Test.YtipfoclmdbbjiaaU21
import Derived.Laws.Rows
import Derived.Laws.CopyOwn
/- The contracts of package backstayref01's wide numbers: digits to the base 65536 with a sign. Conditions: the struct handed in is the one of a sign and a number below 65536 to the 9th. -/
namespace Go.Proofs.Ytipfoclmdbbjiaa
open Go.RowKit
/-- the struct of a sign and nine digits -/
def wideA (m : Bool) (d : Nat → Nat) : Array Value :=
  #[.bool m, .int .u64 (d 0 : Nat), .int .u64 (d 1 : Nat), .int .u64 (d 2 : Nat), .int .u64 (d 3 : Nat), .int .u64 (d 4 : Nat), .int .u64 (d 5 : Nat), .int .u64 (d 6 : Nat), .int .u64 (d 7 : Nat), .int .u64 (d 8 : Nat)]
set_option maxRecDepth 100000 in
theorem nine (k : Nat) (h : k < 9) : k = 0 ∨ k = 1 ∨ k = 2 ∨ k = 3 ∨ k = 4 ∨ k = 5 ∨ k = 6 ∨ k = 7 ∨ k = 8 := by omega
set_option maxRecDepth 100000 in
theorem wideA_set (m : Bool) (d : Nat → Nat) (k x : Nat) (h : k < 9) : (wideA m d).setIfInBounds (1 + k) (.int .u64 (x : Nat)) = wideA m (fun i => if i = k then x else d i) := by
  rcases nine k h with rfl | rfl | rfl | rfl | rfl | rfl | rfl | rfl | rfl <;> rfl
set_option maxRecDepth 100000 in
theorem wideA_set0 (m n : Bool) (d : Nat → Nat) : (wideA m d).setIfInBounds 0 (.bool n) = wideA n d := rfl
set_option maxRecDepth 100000 in
theorem wideA_get (m : Bool) (d : Nat → Nat) (k : Nat) (h : k < 9) : (wideA m d)[1 + k]? = some (.int .u64 (d k : Nat)) := by
  rcases nine k h with rfl | rfl | rfl | rfl | rfl | rfl | rfl | rfl | rfl <;> rfl
set_option maxRecDepth 100000 in
theorem wideA_get0 (m : Bool) (d : Nat → Nat) : (wideA m d)[0]? = some (.bool m) := rfl
set_option maxRecDepth 100000 in
theorem wideA_size (m : Bool) (d : Nat → Nat) : (wideA m d).size = 10 := rfl
set_option maxRecDepth 100000 in
theorem wideA_congr (m : Bool) {d d' : Nat → Nat} (h : ∀ i, i < 9 → d i = d' i) : wideA m d = wideA m d' := by
  unfold wideA
  rw [h 0 (by decide), h 1 (by decide), h 2 (by decide), h 3 (by decide), h 4 (by decide), h 5 (by decide), h 6 (by decide), h 7 (by decide), h 8 (by decide)]
set_option maxRecDepth 100000 in
theorem wideA_sz (m n : Bool) (d e : Nat → Nat) : (wideA m d).size = (wideA n e).size := rfl
set_option maxRecDepth 100000 in
theorem wideA_one (m : Bool) (d : Nat → Nat) : (wideA m d).all (·.oneCell') = true := by simp [wideA, Value.oneCell']
def WidePost (W : World) (m : Bool) (v : Nat) (e : Ending) (W' : World) : Prop := e = .returned (.agg (wideA m (dg v))) ∧ Below W.heap.size W W'
attribute [local irreducible] wideA dg

set_option maxRecDepth 100000 in
theorem ofq (N k : Nat) : ((N / 65536 ^ k : Nat) : Int) / 65536 = ((N / 65536 ^ (k + 1) : Nat) : Int) := by
  rw [Nat.pow_succ, ← Nat.div_div_eq_div_mul]; simp
set_option maxRecDepth 100000 in
theorem ofr (N k : Nat) : ((N / 65536 ^ k : Nat) : Int) % 65536 = ((dg N k : Nat) : Int) := by
  unfold dg; simp
set_option maxRecDepth 100000 in
theorem of_next (N k : Nat) (i : Nat) (_ : i < 9) : (if i = k then dg N k else if i < k then dg N i else 0) = if i < k + 1 then dg N i else 0 := by
  by_cases h : i = k
  · subst h; simp
  · rw [if_neg h]
    by_cases h2 : i < k
    · rw [if_pos h2, if_pos (by omega)]
    · rw [if_neg h2, if_neg (by omega)]
set_option maxRecDepth 100000 in
theorem of_last (N : Nat) (h : N < 65536 ^ 4) (i : Nat) (_ : i < 9) : (if i < 4 then dg N i else 0) = dg N i := by
  split
  · rfl
  · exact (dg_over N i 4 h (by omega)).symm
set_option maxRecDepth 100000 in
theorem upd_next (f g : Nat → Nat) (k : Nat) (i : Nat) : (if i = k then g k else if i < k then g i else f i) = if i < k + 1 then g i else f i := by
  by_cases h : i = k
  · subst h; simp
  · rw [if_neg h]
    by_cases h2 : i < k
    · rw [if_pos h2, if_pos (by omega)]
    · rw [if_neg h2, if_neg (by omega)]
set_option maxRecDepth 100000 in
theorem wideA_full (m : Bool) (f g : Nat → Nat) : wideA m (fun i => if i < 9 then f i else g i) = wideA m f := wideA_congr m (fun i hi => if_pos hi)
set_option maxRecDepth 100000 in
theorem int_mod (n : Nat) : (n : Int) % 65536 = ((n % 65536 : Nat) : Int) := by simp
set_option maxRecDepth 100000 in
theorem int_div (n : Nat) : (n : Int) / 65536 = ((n / 65536 : Nat) : Int) := by simp

def LessPost (W : World) (x : Bool) (e : Ending) (W' : World) : Prop := e = .returned (.bool x) ∧ Below W.heap.size W W'
end Go.Proofs.Ytipfoclmdbbjiaa

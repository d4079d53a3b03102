/- The contracts of package gf: what New makes, and what each method computes over it. Conditions: the tables lie at the pointer as New makes them (IsGf). -/
import Derived.Test.YtkcalgolanpjaaaAid
import Derived.Test.YtkcalgolanpjaaaGfPlain
namespace Go.Proofs.Ytkcalgolanpjaaa
open Go.RowKit

def gzero : Array Value := Array.replicate 510 (.int .u8 0) ++ Array.replicate 256 (.int .i64 0)
def gtbl : Nat → Array Value
  | 0 => gzero
  | k + 1 => (((gtbl k).setIfInBounds k (.int .u8 (gexp k))).setIfInBounds (k + 255) (.int .u8 (gexp k))).setIfInBounds (510 + gexp k) (.int .i64 k)
theorem zeroTables (w : World) : (zeroValue 64).run Try.prog w = .ok (.agg gzero) w := by kernel_rfl
theorem gtbl_size (k : Nat) : (gtbl k).size = 766 := by
  induction k with
  | zero => simp [gtbl, gzero]
  | succ k ih => simp [gtbl, ih]
theorem gtbl_exp (k i : Nat) (hk : k ≤ 255) (hi : i < k ∨ (255 ≤ i ∧ i < 255 + k)) : (gtbl k)[i]? = some (.int .u8 (gexp i)) := by
  induction k with
  | zero => omega
  | succ k ih =>
    have hs := gtbl_size k
    have hx := gexp_lt k
    simp only [gtbl]
    rw [Array.getElem?_setIfInBounds_ne (by omega)]
    by_cases h1 : k + 255 = i
    · subst h1
      rw [Array.getElem?_setIfInBounds_self_of_lt (by simp [hs]; omega), gexp_add255]
    · rw [Array.getElem?_setIfInBounds_ne h1]
      by_cases h2 : k = i
      · subst h2
        rw [Array.getElem?_setIfInBounds_self_of_lt (by omega)]
      · rw [Array.getElem?_setIfInBounds_ne h2]
        exact ih (by omega) (by omega)
theorem gtbl_log (k j : Nat) (hk : k ≤ 255) (hj : j < k) : (gtbl k)[510 + gexp j]? = some (.int .i64 j) := by
  induction k with
  | zero => omega
  | succ k ih =>
    have hs := gtbl_size k
    have hx := gexp_lt k
    have hy := gexp_lt j
    simp only [gtbl]
    by_cases h1 : j = k
    · subst h1
      rw [Array.getElem?_setIfInBounds_self_of_lt (by simp [hs]; omega)]
    · have hne : gexp k ≠ gexp j := fun e => h1 (gexp_inj _ _ (by omega) (by omega) e.symm)
      rw [Array.getElem?_setIfInBounds_ne (by omega), Array.getElem?_setIfInBounds_ne (by omega), Array.getElem?_setIfInBounds_ne (by omega)]
      exact ih (by omega) (by omega)
theorem gtbl_log0 (k : Nat) (hk : k ≤ 255) : (gtbl k)[510]? = some (.int .i64 0) := by
  induction k with
  | zero => simp [gtbl, gzero]
  | succ k ih =>
    have hx := gexp_pos k
    simp only [gtbl]
    rw [Array.getElem?_setIfInBounds_ne (by omega), Array.getElem?_setIfInBounds_ne (by omega), Array.getElem?_setIfInBounds_ne (by omega)]
    exact ih (by omega)

/-- At block b lie the tables as New makes them. -/
def IsGf (w : World) (b : Nat) : Prop := w.heap[b]? = some (.cells (gtbl 255) 64 (0, 0))
theorem IsGf.exp {w : World} {b : Nat} (h : IsGf w b) (i : Nat) (hi : i < 510) : w.cell? ⟨b, i, none⟩ = some (.int .u8 (gexp i)) := by
  rw [cell_of_block h]
  exact gtbl_exp 255 i (by omega) (by omega)
theorem IsGf.log {w : World} {b : Nat} (h : IsGf w b) (a : Nat) (ha : a < 256) (a0 : a ≠ 0) : w.cell? ⟨b, 510 + a, none⟩ = some (.int .i64 (glog a)) := by
  rw [cell_of_block h]
  have := gtbl_log 255 (glog a) (by omega) (glog_lt a ha a0)
  rw [gexp_glog a ha a0] at this
  exact this
theorem IsGf.log0 {w : World} {b : Nat} (h : IsGf w b) : w.cell? ⟨b, 510, none⟩ = some (.int .i64 0) := by
  rw [cell_of_block h]
  exact gtbl_log0 255 (by omega)
theorem IsGf.lt {w : World} {b : Nat} (h : IsGf w b) : b < w.heap.size := (Array.getElem?_eq_some_iff.1 h).1
theorem IsGf.drew {w : World} {b : Nat} (h : IsGf w b) : IsGf w.drew b := h
theorem IsGf.drewN {w : World} {b : Nat} (h : IsGf w b) (n : Nat) : IsGf (w.drewN n) b := h
theorem IsGf.below {w w' : World} {b B : Nat} (h : IsGf w b) (hb : Below B w w') (hB : b < B) : IsGf w' b := by
  unfold IsGf; rw [hb.block b hB]; exact h
theorem IsGf.made (w : World) (n : Nat) : IsGf ((w.alloc (.cells (gtbl 255) 64)).drewN n) w.heap.size := by
  show (w.heap.push _)[w.heap.size]? = _
  simp

theorem IsGf.alloc {w : World} {b : Nat} (h : IsGf w b) (o : Obj) : IsGf (w.alloc o) b :=
  (Below.heap_alloc w o b h.lt).trans h
theorem gstep_hi (k : Nat) (h : 255 < (gexp k : Int) * 2) : bits .xor .i64 ((gexp k : Int) * 2) 285 = (gexp (k + 1) : Nat) := by
  have := gexp_lt k
  have e := i64_xor_nat (gexp k * 2) 285 (by omega) (by omega)
  simp only [gexp, gstep]
  rw [if_pos (by omega), Nat.mul_comm 2]
  simpa using e
theorem gstep_lo (k : Nat) (h : (gexp k : Int) * 2 ≤ 255) : (gexp k : Int) * 2 = (gexp (k + 1) : Nat) := by
  simp only [gexp, gstep]
  rw [if_neg (by omega), Nat.mul_comm 2]
  simp
theorem gexp_zero : gexp 0 = 1 := rfl
theorem gtbl_zero : gtbl 0 = gzero := rfl
theorem gtbl_succ (k : Nat) : gtbl (k + 1) = (((gtbl k).setIfInBounds k (.int .u8 (gexp k))).setIfInBounds (k + 255) (.int .u8 (gexp k))).setIfInBounds (510 + gexp k) (.int .i64 k) := rfl
attribute [local irreducible] gexp gtbl glog rmul

set_option maxRecDepth 100000 in
set_option maxHeartbeats 400000 in
theorem gf_new (w : World) :
    Calls Try.prog 12 #[] w fun e w' => e = .returned (.pointer (some ⟨w.heap.size, 0, none⟩)) ∧ ∃ n, w' = (w.alloc (.cells (gtbl 255) 64)).drewN n := by
  have hz := zeroTables
  go_enter Try.func12, Try.ntmps12
  go_wp2
  go_loopw [2, 6] (fun v i wr => ∃ k n : Nat, k ≤ 255 ∧ i = .int .i64 k ∧ v = .int .i64 (gexp k : Nat) ∧ wr = (w.alloc (.cells (gtbl k) 64)).drewN n) (fun _ i _ => 255 - (intOf i).toNat)
  case atStart => exact ⟨0, 0, by omega, rfl, by rw [gexp_zero]; rfl, by rw [gtbl_zero]; rfl⟩
  case round =>
    obtain ⟨k, n, hk, rfl, rfl, rfl⟩ := hrel
    by_cases hlt : k < 255
    · have hx := gexp_lt k
      obtain ⟨v1, h1⟩ := arr_at (gtbl k) k 766 (gtbl_size k) (by omega)
      obtain ⟨v2, h2⟩ := arr_at (gtbl k) (k + 255) 766 (gtbl_size k) (by omega)
      obtain ⟨v3, h3⟩ := arr_at (((gtbl k).setIfInBounds k (.int .u8 (gexp k))).setIfInBounds (k + 255) (.int .u8 (gexp k))) (510 + gexp k) 766 (by simp [gtbl_size]) (by omega)
      go_wp2
      go_region
      rw [sc_drewN, sc_drewN]
      go_wp2
      all_goals
        try rw [sc_drewN]
        go_roundw
        case rel => exact ⟨k + 1, n + 1, by omega, by go_num, by first | rw [gstep_hi k (by assumption)] | rw [gstep_lo k (by assumption)], by rw [gtbl_succ]⟩
        case measure => simp [intOf]; omega
    · obtain rfl : k = 255 := by omega
      go_wp2
      go_ret
      exact ⟨rfl, n, rfl⟩

set_option maxHeartbeats 400000 in
theorem gf_mul (p a b : Nat) (w : World) (hg : IsGf w p) (ha : a < 256) (hb : b < 256) :
    Calls Try.prog 49 #[.pointer (some ⟨p, 0, none⟩), .int .u8 a, .int .u8 b] w fun e w' => e = .returned (.int .u8 (rmul a b : Nat)) ∧ ∃ n, w' = w.drewN n := by
  by_cases a0 : a = 0
  · subst a0
    rw [rmul_zero_left]
    go_enter Try.func49, Try.ntmps49
    go_wp2
    go_ret
    exact ⟨rfl, 0, rfl⟩
  · have e0 : ((a : Int) == 0) = false := by simp; exact a0
    by_cases b0 : b = 0
    · subst b0
      rw [rmul_zero_right]
      go_enter Try.func49, Try.ntmps49
      go_wp2
      go_ret
      exact ⟨rfl, 0, rfl⟩
    · have e1 : ((b : Int) == 0) = false := by simp; exact b0
      have la := glog_lt a ha a0
      have lb := glog_lt b hb b0
      have c1 := hg.log a ha a0
      have c2 := hg.log b hb b0
      have c3 := hg.exp (glog a + glog b) (by omega)
      have hr := hide (rmul_log a b ha hb a0 b0)
      clear hg
      go_enter Try.func49, Try.ntmps49
      go_wp2
      go_quiet (fail)
      go_wp2
      go_ret
      exact ⟨ret_int (by rw [hr.out]), _, rfl⟩
end Go.Proofs.Ytkcalgolanpjaaa

import Derived.Test.YtipfoclmdbbjiaaU01
/- The contracts of package gf: what New makes, and what each method computes over it. Conditions: the tables lie at the pointer as New makes them (IsGf). -/
namespace Go.Proofs.Ytipfoclmdbbjiaa
open Go.RowKit

def gzero : Array Value := Array.replicate 510 (.int .u8 0) ++ Array.replicate 256 (.int .i64 0)
def gtbl : Nat → Array Value
  | 0 => gzero
  | k + 1 => (((gtbl k).setIfInBounds k (.int .u8 (gexp k))).setIfInBounds (k + 255) (.int .u8 (gexp k))).setIfInBounds (510 + gexp k) (.int .i64 k)
set_option maxRecDepth 100000 in
theorem zeroTables (w : World) : (zeroValue 85).run Try.prog w = .ok (.agg gzero) w := by kernel_rfl
set_option maxRecDepth 100000 in
theorem gtbl_size (k : Nat) : (gtbl k).size = 766 := by
  induction k with
  | zero => simp [gtbl, gzero]
  | succ k ih => simp [gtbl, ih]
set_option maxRecDepth 100000 in
theorem gtbl_exp (k i : Nat) (hk : k ≤ 255) (hi : i < k ∨ (255 ≤ i ∧ i < 255 + k)) : (gtbl k)[i]? = some (.int .u8 (gexp i)) := by
  induction k with
  | zero => omega
  | succ k ih =>
    have hs := gtbl_size k
    have hx := gexp_lt k
    simp only [gtbl]
    rw [Array.getElem?_setIfInBounds_ne (by omega)]
    by_cases h1 : k + 255 = i
    · subst h1
      rw [Array.getElem?_setIfInBounds_self_of_lt (by simp [hs]; omega), gexp_add255]
    · rw [Array.getElem?_setIfInBounds_ne h1]
      by_cases h2 : k = i
      · subst h2
        rw [Array.getElem?_setIfInBounds_self_of_lt (by omega)]
      · rw [Array.getElem?_setIfInBounds_ne h2]
        exact ih (by omega) (by omega)
set_option maxRecDepth 100000 in
theorem gtbl_log (k j : Nat) (hk : k ≤ 255) (hj : j < k) : (gtbl k)[510 + gexp j]? = some (.int .i64 j) := by
  induction k with
  | zero => omega
  | succ k ih =>
    have hs := gtbl_size k
    have hx := gexp_lt k
    have hy := gexp_lt j
    simp only [gtbl]
    by_cases h1 : j = k
    · subst h1
      rw [Array.getElem?_setIfInBounds_self_of_lt (by simp [hs]; omega)]
    · have hne : gexp k ≠ gexp j := fun e => h1 (gexp_inj _ _ (by omega) (by omega) e.symm)
      rw [Array.getElem?_setIfInBounds_ne (by omega), Array.getElem?_setIfInBounds_ne (by omega), Array.getElem?_setIfInBounds_ne (by omega)]
      exact ih (by omega) (by omega)
set_option maxRecDepth 100000 in
theorem gtbl_log0 (k : Nat) (hk : k ≤ 255) : (gtbl k)[510]? = some (.int .i64 0) := by
  induction k with
  | zero => simp [gtbl, gzero]
  | succ k ih =>
    have hx := gexp_pos k
    simp only [gtbl]
    rw [Array.getElem?_setIfInBounds_ne (by omega), Array.getElem?_setIfInBounds_ne (by omega), Array.getElem?_setIfInBounds_ne (by omega)]
    exact ih (by omega)

/-- At block b lie the tables as New makes them. -/
def IsGf (w : World) (b : Nat) : Prop := w.heap[b]? = some (.cells (gtbl 255) 85 (0, 0))
set_option maxRecDepth 100000 in
theorem IsGf.exp {w : World} {b : Nat} (h : IsGf w b) (i : Nat) (hi : i < 510) : w.cell? ⟨b, i, none⟩ = some (.int .u8 (gexp i)) := by
  rw [cell_of_block h]
  exact gtbl_exp 255 i (by omega) (by omega)
set_option maxRecDepth 100000 in
theorem IsGf.log {w : World} {b : Nat} (h : IsGf w b) (a : Nat) (ha : a < 256) (a0 : a ≠ 0) : w.cell? ⟨b, 510 + a, none⟩ = some (.int .i64 (glog a)) := by
  rw [cell_of_block h]
  have := gtbl_log 255 (glog a) (by omega) (glog_lt a ha a0)
  rw [gexp_glog a ha a0] at this
  exact this
set_option maxRecDepth 100000 in
theorem IsGf.log0 {w : World} {b : Nat} (h : IsGf w b) : w.cell? ⟨b, 510, none⟩ = some (.int .i64 0) := by
  rw [cell_of_block h]
  exact gtbl_log0 255 (by omega)
set_option maxRecDepth 100000 in
theorem IsGf.lt {w : World} {b : Nat} (h : IsGf w b) : b < w.heap.size := (Array.getElem?_eq_some_iff.1 h).1
set_option maxRecDepth 100000 in
theorem IsGf.drew {w : World} {b : Nat} (h : IsGf w b) : IsGf w.drew b := h
set_option maxRecDepth 100000 in
theorem IsGf.drewN {w : World} {b : Nat} (h : IsGf w b) (n : Nat) : IsGf (w.drewN n) b := h
set_option maxRecDepth 100000 in
theorem IsGf.below {w w' : World} {b B : Nat} (h : IsGf w b) (hb : Below B w w') (hB : b < B) : IsGf w' b := by
  unfold IsGf; rw [hb.block b hB]; exact h
set_option maxRecDepth 100000 in
theorem IsGf.made (w : World) (n : Nat) : IsGf ((w.alloc (.cells (gtbl 255) 85)).drewN n) w.heap.size := by
  show (w.heap.push _)[w.heap.size]? = _
  simp

set_option maxRecDepth 100000 in
theorem IsGf.alloc {w : World} {b : Nat} (h : IsGf w b) (o : Obj) : IsGf (w.alloc o) b :=
  (Below.heap_alloc w o b h.lt).trans h
set_option maxRecDepth 100000 in
theorem gstep_hi (k : Nat) (h : 255 < (gexp k : Int) * 2) : bits .xor .i64 ((gexp k : Int) * 2) 285 = (gexp (k + 1) : Nat) := by
  have := gexp_lt k
  have e := i64_xor_nat (gexp k * 2) 285 (by omega) (by omega)
  simp only [gexp, gstep]
  rw [if_pos (by omega), Nat.mul_comm 2]
  simpa using e
set_option maxRecDepth 100000 in
theorem gstep_lo (k : Nat) (h : (gexp k : Int) * 2 ≤ 255) : (gexp k : Int) * 2 = (gexp (k + 1) : Nat) := by
  simp only [gexp, gstep]
  rw [if_neg (by omega), Nat.mul_comm 2]
  simp
set_option maxRecDepth 100000 in
theorem gexp_zero : gexp 0 = 1 := rfl
set_option maxRecDepth 100000 in
theorem gtbl_zero : gtbl 0 = gzero := rfl
set_option maxRecDepth 100000 in
theorem gtbl_succ (k : Nat) : gtbl (k + 1) = (((gtbl k).setIfInBounds k (.int .u8 (gexp k))).setIfInBounds (k + 255) (.int .u8 (gexp k))).setIfInBounds (510 + gexp k) (.int .i64 k) := rfl
attribute [local irreducible] gexp gtbl glog rmul

set_option maxRecDepth 100000 in
set_option maxHeartbeats 400000 in
theorem gf_new (w : World) :
    Calls Try.prog 9 #[] w fun e w' => e = .returned (.pointer (some ⟨w.heap.size, 0, none⟩)) ∧ ∃ n, w' = (w.alloc (.cells (gtbl 255) 85)).drewN n := by
  have hz := zeroTables
  go_enter Try.func9, Try.ntmps9
  go_wp2
  go_loopw [2, 6] (fun v i wr => ∃ k n : Nat, k ≤ 255 ∧ i = .int .i64 k ∧ v = .int .i64 (gexp k : Nat) ∧ wr = (w.alloc (.cells (gtbl k) 85)).drewN n) (fun _ i _ => 255 - (intOf i).toNat)
  case atStart => exact ⟨0, 0, by omega, rfl, by rw [gexp_zero]; rfl, by rw [gtbl_zero]; rfl⟩
  case round =>
    obtain ⟨k, n, hk, rfl, rfl, rfl⟩ := hrel
    by_cases hlt : k < 255
    · have hx := gexp_lt k
      obtain ⟨v1, h1⟩ := arr_at (gtbl k) k 766 (gtbl_size k) (by omega)
      obtain ⟨v2, h2⟩ := arr_at (gtbl k) (k + 255) 766 (gtbl_size k) (by omega)
      obtain ⟨v3, h3⟩ := arr_at (((gtbl k).setIfInBounds k (.int .u8 (gexp k))).setIfInBounds (k + 255) (.int .u8 (gexp k))) (510 + gexp k) 766 (by simp [gtbl_size]) (by omega)
      go_wp2
      go_region
      rw [sc_drewN, sc_drewN]
      go_wp2
      all_goals
        try rw [sc_drewN]
        go_roundw
        case rel => exact ⟨k + 1, n + 1, by omega, by go_num, by first | rw [gstep_hi k (by assumption)] | rw [gstep_lo k (by assumption)], by rw [gtbl_succ]⟩
        case measure => simp [intOf]; omega
    · obtain rfl : k = 255 := by omega
      go_wp2
      go_ret
      exact ⟨rfl, n, rfl⟩

set_option maxRecDepth 100000 in
set_option maxHeartbeats 400000 in
theorem gf_mul (p a b : Nat) (w : World) (hg : IsGf w p) (ha : a < 256) (hb : b < 256) :
    Calls Try.prog 71 #[.pointer (some ⟨p, 0, none⟩), .int .u8 a, .int .u8 b] w fun e w' => e = .returned (.int .u8 (rmul a b : Nat)) ∧ ∃ n, w' = w.drewN n := by
  by_cases a0 : a = 0
  · subst a0
    rw [rmul_zero_left]
    go_enter Try.func71, Try.ntmps71
    go_wp2
    go_ret
    exact ⟨rfl, 0, rfl⟩
  · have e0 : ((a : Int) == 0) = false := by simp; exact a0
    by_cases b0 : b = 0
    · subst b0
      rw [rmul_zero_right]
      go_enter Try.func71, Try.ntmps71
      go_wp2
      go_ret
      exact ⟨rfl, 0, rfl⟩
    · have e1 : ((b : Int) == 0) = false := by simp; exact b0
      have la := glog_lt a ha a0
      have lb := glog_lt b hb b0
      have c1 := hg.log a ha a0
      have c2 := hg.log b hb b0
      have c3 := hg.exp (glog a + glog b) (by omega)
      have hr := hide (rmul_log a b ha hb a0 b0)
      clear hg
      go_enter Try.func71, Try.ntmps71
      go_wp2
      go_quiet (fail)
      go_wp2
      go_ret
      exact ⟨ret_int (by rw [hr.out]), _, rfl⟩
end Go.Proofs.Ytipfoclmdbbjiaa

/- The contracts of package backstayref03 (the document's answer for gf): the product bit by bit, the inverse by trying, the power, the row product. Conditions: none beyond the ranges of bytes. -/
namespace Go.Proofs.Ytipfoclmdbbjiaa
open Go.RowKit
attribute [local irreducible] gexp glog rmul mulA redB rpow


set_option maxRecDepth 100000 in
theorem bit_yes {x k : Nat} (h : (((x : Int) / 2 ^ k).tmod 2 == 1) = true) : (x / 2 ^ k) % 2 = 1 := by
  rw [cast_pow, tmod2] at h; simpa using h
set_option maxRecDepth 100000 in
theorem bit_no {x k : Nat} (h : (((x : Int) / 2 ^ k).tmod 2 == 1) = false) : ¬ (x / 2 ^ k) % 2 = 1 := by
  rw [cast_pow, tmod2] at h; simpa using h
set_option maxRecDepth 100000 in
theorem mulA_step (a b k : Nat) (ha : a < 256) (hk : k < 8) (h : (((b : Int) / 2 ^ k).tmod 2 == 1) = true) :
    bits .xor .i64 (mulA a b k : Nat) (wrap64 ((a : Int) * 2 ^ k)) = (mulA a b (k + 1) : Nat) := by
  have h1 := mulA_lt a b k ha (by omega)
  have h2 : a * 2 ^ k < 65536 := by
    have : 2 ^ k ≤ 2 ^ 7 := Nat.pow_le_pow_right (by decide) (by omega)
    calc a * 2 ^ k ≤ a * 2 ^ 7 := Nat.mul_le_mul_left _ this
      _ < 65536 := by omega
  have e : (a : Int) * 2 ^ k = ((a * 2 ^ k : Nat) : Int) := by simp
  rw [e, IntWalk.wrap64_in _ ⟨by omega, by omega⟩, i64_xor_nat _ _ (by omega) (by omega), mulA_yes a b k (bit_yes h)]
set_option maxRecDepth 100000 in
theorem redB_step (n j : Nat) (hn : n < 65536) (hj : j < 7) (h : (redB n j / 2 ^ (14 - j)) % 2 = 1) :
    bits .xor .i64 (redB n j : Nat) (wrap64 (285 * 2 ^ (14 - j - 8))) = (redB n (j + 1) : Nat) := by
  have h1 := redB_lt n j hn
  have h2 : 285 * 2 ^ (6 - j) < 65536 := by
    have : 2 ^ (6 - j) ≤ 2 ^ 6 := Nat.pow_le_pow_right (by decide) (by omega)
    calc 285 * 2 ^ (6 - j) ≤ 285 * 2 ^ 6 := Nat.mul_le_mul_left _ this
      _ < 65536 := by decide
  have e : (285 : Int) * 2 ^ (14 - j - 8) = ((285 * 2 ^ (6 - j) : Nat) : Int) := by
    rw [show 14 - j - 8 = 6 - j by omega]; simp
  rw [e, IntWalk.wrap64_in _ ⟨by omega, by omega⟩, i64_xor_nat _ _ (by omega) (by omega), redB_yes n j h]

set_option maxRecDepth 100000 in
set_option maxHeartbeats 400000 in
theorem ref_mul (a b : Nat) (w : World) (ha : a < 256) (_hb : b < 256) :
    Calls Try.prog 64 #[.int .u8 a, .int .u8 b] w fun e w' => e = .returned (.int .u8 (rmul a b : Nat)) ∧ w = w' := by
  go_enter Try.func64, Try.ntmps64
  go_wp2
  go_loop [5, 6] (fun v i => ∃ k : Nat, k ≤ 8 ∧ i = .int .i64 k ∧ v = .int .i64 (mulA a b k : Nat)) (fun _ i => 8 - (intOf i).toNat)
  case atStart => exact ⟨0, by omega, rfl, by rw [mulA_zero]; rfl⟩
  case round =>
    obtain ⟨k, hk, rfl, rfl⟩ := hrel
    by_cases hlt : k < 8
    · go_wp2
      · have h := ‹(((b : Int) / 2 ^ k).tmod 2 == 1) = true›
        rw [mulA_step a b k ha hlt h]
        go_round
        case rel => exact ⟨k + 1, by omega, by go_num, rfl⟩
        case measure => simp [intOf]; omega
      · have h := bit_no ‹(((b : Int) / 2 ^ k).tmod 2 == 1) = false›
        rw [← mulA_no a b k h]
        go_round
        case rel => exact ⟨k + 1, by omega, by go_num, rfl⟩
        case measure => simp [intOf]; omega
    · obtain rfl : k = 8 := by omega
      go_wp2
      go_loop [5, 7] (fun v i => ∃ j : Nat, j ≤ 7 ∧ i = .int .i64 (14 - j : Int) ∧ v = .int .i64 (redB (mulA a b 8) j : Nat)) (fun _ i => (intOf i).toNat)
      case atStart => exact ⟨0, by omega, rfl, by rw [redB_zero]⟩
      case round =>
        obtain ⟨j, hj, rfl, rfl⟩ := hrel
        by_cases hlt : j < 7
        · go_wp2
          · have h := bit_yes ‹((((redB (mulA a b 8) j : Nat) : Int) / 2 ^ (14 - j)).tmod 2 == 1) = true›
            rw [redB_step (mulA a b 8) j (mulA_lt a b 8 ha (by omega)) hlt h]
            go_round
            case rel => exact ⟨j + 1, by omega, by rw [show ((14 : Int) - ((j + 1 : Nat) : Int)) = 14 - (j : Int) - 1 from by omega], rfl⟩
            case measure => simp [intOf]; omega
          · have h := bit_no ‹((((redB (mulA a b 8) j : Nat) : Int) / 2 ^ (14 - j)).tmod 2 == 1) = false›
            rw [← redB_no _ _ h]
            go_round
            case rel => exact ⟨j + 1, by omega, by rw [show ((14 : Int) - ((j + 1 : Nat) : Int)) = 14 - (j : Int) - 1 from by omega], rfl⟩
            case measure => simp [intOf]; omega
        · obtain rfl : j = 7 := by omega
          have hl := redB_lt (mulA a b 8) 7 (mulA_lt a b 8 ha (by omega))
          go_wp2
          go_ret
          exact ⟨ret_int (by rw [rmul_eq]; simp), rfl⟩

set_option maxRecDepth 100000 in
set_option maxHeartbeats 400000 in
theorem ref_inv (a : Nat) (w : World) (ha : a < 256) :
    Calls Try.prog 72 #[.int .u8 a] w fun e w' => e = .returned (.int .u8 (rinv a : Nat)) ∧ w = w' := by
  go_enter Try.func72, Try.ntmps72
  go_wp2_with fail
  go_loop [3] (fun i => ∃ k : Nat, 1 ≤ k ∧ k ≤ 256 ∧ i = .int .i64 k ∧ Hid (∀ j, 1 ≤ j → j < k → rmul a j ≠ 1)) (fun i => 256 - (intOf i).toNat)
  case atStart => exact ⟨1, by omega, by omega, rfl, hide (fun j h1 h2 => by omega)⟩
  case round =>
    obtain ⟨k, hk1, hk, rfl, hq⟩ := hrel
    by_cases hlt : k < 256
    · have hm := rmul_lt a k
      by_cases h1 : rmul a k = 1
      · have hr := hide (rinv_uniq a k ha hlt h1)
        have h1' : ((rmul a k : Int) == 1) = true := by rw [h1]; rfl
        clear h1
        go_wp2_with fail
        refine (ref_mul a k _ ha hlt).mono ?_
        rintro e w' ⟨rfl, rfl⟩
        go_wp2_with fail
        go_ret
        exact ⟨ret_int (by rw [← hr.out]), rfl⟩
      · have h1' : ((rmul a k : Int) == 1) = false := by simp; omega
        have h1h := hide h1
        clear h1
        go_wp2_with fail
        refine (ref_mul a k _ ha hlt).mono ?_
        rintro e w' ⟨rfl, rfl⟩
        go_wp2_with fail
        go_round
        case rel =>
          refine ⟨k + 1, by omega, by omega, by go_num, hide (fun j h1 h2 => ?_)⟩
          by_cases e : j = k
          · subst e; exact h1h.out
          · exact hq.out j h1 (by omega)
        case measure => simp [intOf]; omega
    · obtain rfl : k = 256 := by omega
      have hr : Hid (rinv a = 0) := by
        refine hide ?_
        by_cases a0 : a = 0
        · rw [a0]; unfold rinv; rfl
        · have hl := rinv_lt a
          have h := rmul_rinv a ha a0
          by_cases e : rinv a = 0
          · exact e
          · exact absurd h (hq.out (rinv a) (by omega) hl)
      go_wp2_with fail
      go_ret
      exact ⟨ret_int (by rw [hr.out]; rfl), rfl⟩

end Go.Proofs.Ytipfoclmdbbjiaa

/- More contracts of package gf: Inv, Div, Log, Exp, Pow, Add, Dot; and of the document's answer: Inv, Pow, Dot. Conditions: the tables lie as New makes them; the slices read as the lists named. -/
namespace Go.Proofs.Ytipfoclmdbbjiaa
open Go.RowKit
attribute [local irreducible] gexp gtbl glog rmul rinv rpow zexp xorl

set_option maxRecDepth 100000 in
set_option maxHeartbeats 400000 in
theorem gf_inv (p a : Nat) (w : World) (hg : IsGf w p) (ha : a < 256) (a0 : a ≠ 0) :
    Calls Try.prog 69 #[.pointer (some ⟨p, 0, none⟩), .int .u8 a] w fun e w' => e = .returned (.tuple #[.int .u8 (rinv a : Nat), .int .i64 0]) ∧ ∃ n, w' = w.drewN n := by
  have e0 : ((a : Int) == 0) = false := by simp; exact a0
  have la := glog_lt a ha a0
  have c1 := hg.log a ha a0
  have c3 := hg.exp (255 - glog a) (by omega)
  have hr : Hid (rinv a = gexp (255 - glog a)) := by rw [rinv_eq a a0]; exact rfl
  clear hg
  go_enter Try.func69, Try.ntmps69
  go_wp2
  go_quiet (fail)
  go_wp2
  go_ret2
  exact ⟨by rw [hr.out]; rfl, _, rfl⟩

set_option maxRecDepth 100000 in
theorem gf_inv0 (p : Nat) (w : World) :
    Calls Try.prog 69 #[.pointer (some ⟨p, 0, none⟩), .int .u8 0] w fun e w' => e = .returned (.tuple #[.int .u8 0, .int .i64 30]) ∧ w = w' := by
  go_enter Try.func69, Try.ntmps69
  go_wp2
  go_ret2
  exact ⟨rfl, rfl⟩

set_option maxRecDepth 100000 in
theorem exp_idx (n : Int) (h1 : -9223372036854775808 ≤ n) (h2 : n ≤ 9223372036854775807) : (wrap64 (n.tmod 255 + 255)).tmod 255 = n % 255 := by
  rcases Int.le_total 0 n with h | h
  · rw [Int.tmod_eq_emod_of_nonneg h, IntWalk.wrap64_in _ ⟨by omega, by omega⟩, Int.tmod_eq_emod_of_nonneg (by omega)]
    omega
  · have e : n.tmod 255 = -((-n) % 255) := by
      rw [← Int.tmod_eq_emod_of_nonneg (a := -n) (by omega), Int.neg_tmod, Int.neg_neg]
    rw [e, IntWalk.wrap64_in _ ⟨by omega, by omega⟩, Int.tmod_eq_emod_of_nonneg (by omega)]
    omega
set_option maxRecDepth 100000 in
theorem gf_exp (p : Nat) (n : Int) (w : World) (hg : IsGf w p) (hn : -9223372036854775808 ≤ n ∧ n ≤ 9223372036854775807) :
    Calls Try.prog 68 #[.pointer (some ⟨p, 0, none⟩), .int .i64 n] w fun e w' => e = .returned (.int .u8 (zexp n : Nat)) ∧ w = w' := by
  have c1 := hg.exp ((n % 255).toNat) (by omega)
  have hi := hide (exp_idx n hn.1 hn.2)
  have hb : 0 ≤ (wrap64 (n.tmod 255 + 255)).tmod 255 ∧ (wrap64 (n.tmod 255 + 255)).tmod 255 < 510 := by rw [hi.out]; omega
  rw [← hi.out] at c1
  have hz : Hid (zexp n = gexp ((wrap64 (n.tmod 255 + 255)).tmod 255).toNat) := by rw [hi.out, zexp_eq]; exact rfl
  clear hg hn hi
  go_enter Try.func68, Try.ntmps68
  go_wp2
  go_ret
  exact ⟨ret_int (by rw [hz.out]), rfl⟩

/-- the answer of Pow: the element, the error's number -/
def gpowr (a : Nat) (n : Int) : Nat := if n = 0 then 1 else if a = 0 then 0 else zexp (glog a * (n.tmod 255))
set_option maxRecDepth 100000 in
theorem gf_pow (p a : Nat) (n : Int) (w : World) (hg : IsGf w p) (ha : a < 256) (hn : -9223372036854775808 ≤ n ∧ n ≤ 9223372036854775807) :
    Calls Try.prog 54 #[.pointer (some ⟨p, 0, none⟩), .int .u8 a, .int .i64 n] w fun e w' =>
      e = .returned (.tuple #[.int .u8 (gpowr a n : Nat), .int .i64 (if a = 0 ∧ n < 0 then 30 else 0)]) ∧ ∃ n, w' = w.drewN n := by
  by_cases n0 : n = 0
  · subst n0
    go_enter Try.func54, Try.ntmps54
    go_wp2
    go_ret2
    exact ⟨by simp [gpowr], 0, rfl⟩
  · have e0 : (n == 0) = false := by simp; exact n0
    by_cases a0 : a = 0
    · subst a0
      by_cases hneg : n < 0
      · go_enter Try.func54, Try.ntmps54
        go_wp2
        all_goals (go_ret2; exact ⟨by simp [gpowr, n0], 0, rfl⟩)
      · go_enter Try.func54, Try.ntmps54
        go_wp2
        all_goals (go_ret2; exact ⟨by simp [gpowr, n0], 0, rfl⟩)
    · have e1 : ((a : Int) == 0) = false := by simp; exact a0
      have la := glog_lt a ha a0
      have c1 := hg.log a ha a0
      have hm : -254 ≤ n.tmod 255 ∧ n.tmod 255 ≤ 254 := by
        have h1 := Int.tmod_lt_of_pos n (b := 255) (by decide)
        have h2 := Int.lt_tmod_of_pos n (b := 255) (by decide)
        omega
      have hb : -64516 ≤ (glog a : Int) * (n.tmod 255) ∧ (glog a : Int) * (n.tmod 255) ≤ 64516 := by
        obtain ⟨m1, m2⟩ := hm
        generalize n.tmod 255 = m at *
        constructor
        · have := Int.mul_le_mul_of_nonneg_left m1 (show (0 : Int) ≤ glog a by omega)
          omega
        · have := Int.mul_le_mul_of_nonneg_left m2 (show (0 : Int) ≤ glog a by omega)
          omega
      obtain ⟨hb1, hb2⟩ := hb
      clear hm
      go_enter Try.func54, Try.ntmps54
      go_wp2_with fail
      refine (gf_exp p _ _ hg ⟨by omega, by omega⟩).mono ?_
      rintro e w' ⟨rfl, rfl⟩
      go_wp2_with fail
      go_ret2
      exact ⟨by simp [gpowr, n0, a0], 0, rfl⟩

end Go.Proofs.Ytipfoclmdbbjiaa

/- awake of backstaylaw03: it answers true, and turns nothing that was there. No condition. -/
namespace Go.Proofs.Ytipfoclmdbbjiaa
open Go.RowKit
set_option maxRecDepth 100000 in
theorem rinv_two : rinv 2 = 142 := by decide +kernel
set_option maxRecDepth 100000 in
theorem rmul_2_128 : rmul 2 128 = 29 := by decide +kernel
attribute [local irreducible] gexp gtbl glog rmul rinv rpow zexp
set_option maxRecDepth 100000 in
theorem inv_two (p : Nat) (w : World) (hg : IsGf w p) :
    Calls Try.prog 69 #[.pointer (some ⟨p, 0, none⟩), .int .u8 2] w fun e w' => e = .returned (.tuple #[.int .u8 142, .int .i64 0]) ∧ ∃ n, w' = w.drewN n := by
  have h := gf_inv p 2 w hg (by decide) (by decide)
  rw [rinv_two] at h
  exact h
set_option maxRecDepth 100000 in
theorem mul_2_128 (p : Nat) (w : World) (hg : IsGf w p) :
    Calls Try.prog 71 #[.pointer (some ⟨p, 0, none⟩), .int .u8 2, .int .u8 128] w fun e w' => e = .returned (.int .u8 29) ∧ ∃ n, w' = w.drewN n := by
  have h := gf_mul p 2 128 w hg (by decide) (by decide)
  rw [rmul_2_128] at h
  exact h

end Go.Proofs.Ytipfoclmdbbjiaa

/- The contract of package pacer's Share where it refuses, and of the document's Share of layer 12. -/
import Derived.Test.YtchpiiccdoejdaaShare2
namespace Go.Proofs.Ytchpiiccdoejdaa
open Go.RowKit
theorem sum_share (R S : Int) (f : Nat → Int) (n k : Nat) (h : 0 ≤ shL R S f n) : smF (shV R S f n) k = smF (shB R S f) k + (if ctF f k ≤ shL R S f n then ctF f k else shL R S f n) := by
  induction k with
  | zero => simp [smF, ctF, h]
  | succ k ih =>
    have a1 : smF (shV R S f n) (k + 1) = smF (shV R S f n) k + shV R S f n k := rfl
    have a2 : smF (shB R S f) (k + 1) = smF (shB R S f) k + shB R S f k := rfl
    rw [a1, a2, ih]
    by_cases h1 : 0 < f k
    · have c : ctF f (k + 1) = ctF f k + 1 := by show ctF f k + (if 0 < f k then 1 else 0) = _; rw [if_pos h1]
      rw [c]
      by_cases h2 : ctF f k < shL R S f n
      · have e : shV R S f n k = shB R S f k + 1 := by unfold shV; rw [if_pos ⟨h1, h2⟩]
        rw [e]
        split <;> split <;> omega
      · have e : shV R S f n k = shB R S f k := by unfold shV; rw [if_neg (fun hh => h2 hh.2), Int.add_zero]
        rw [e]
        split <;> split <;> omega
    · have c : ctF f (k + 1) = ctF f k := by show ctF f k + (if 0 < f k then 1 else 0) = _; rw [if_neg h1, Int.add_zero]
      have e : shV R S f n k = shB R S f k := by unfold shV; rw [if_neg (fun hh => h1 hh.1), Int.add_zero]
      rw [c, e]
      omega
theorem sum_all (R : Int) (f : Nat → Int) (n : Nat) (hR : 0 ≤ R) (hS : 0 < smF f n) (hf : ∀ i, i < n → 0 ≤ f i) : smF (shV R (smF f n) f n) n = R := by
  obtain ⟨h0, h1⟩ := shL_bd R f n hR hS hf
  rw [sum_share _ _ _ _ _ h0]
  split
  · unfold shL at *; omega
  · unfold shL at *; omega
theorem share_zero (R S : Int) (f : Nat → Int) (n i : Nat) (h : f i = 0) : shV R S f n i = 0 := by
  unfold shV shB
  rw [h, Int.mul_zero, Int.zero_ediv, if_neg (fun h => by omega)]
  rfl
theorem shV_bd (R : Int) (f : Nat → Int) (n i : Nat) (hR : 0 ≤ R) (hR1 : R ≤ 1048576) (h0 : 0 ≤ f i) (h1 : f i ≤ 65536) (hS : 0 < smF f n) : 0 ≤ shV R (smF f n) f n i ∧ shV R (smF f n) f n i ≤ 68719476737 := by
  have p := Int.mul_nonneg hR h0
  have q : R * f i ≤ 1048576 * 65536 := Int.mul_le_mul hR1 h1 h0 (by omega)
  have a := Int.ediv_nonneg p (Int.le_of_lt hS)
  have b := Int.ediv_le_self (smF f n) p
  unfold shV shB
  split <;> omega
/-- may it be parted? -/
def shOk (R : Int) (f : Nat → Int) (n : Nat) : Prop := 0 ≤ R ∧ R ≤ 1048576 ∧ n ≤ 256 ∧ (∀ i, i < n → 0 ≤ f i ∧ f i ≤ 65536) ∧ smF f n ≠ 0
attribute [local irreducible] smF ctF shB shL shV ltK mkL shT shR rowZ gZ
def NoPost (W : World) (e : Ending) (W' : World) : Prop := e = .returned (.tuple #[.slice none 0 0, .int .i64 1]) ∧ W = W'
set_option maxHeartbeats 2000000 in
theorem s_share_no (R : Int) (a : Option Addr) (cap : Nat) (l : List Int) (w : World) (hs : SlZ .i64 w a l) (hn : l.length ≤ 1000) (hno : ¬ shOk R (gZ l) l.length) :
    Calls Try.prog 8 #[.int .i64 R, .slice a l.length cap] w (NoPost w) := by
  have hsh := hide hs
  have hnoh := hide hno
  clear hs hno
  go_enter Try.func8, Try.ntmps8
  go_wp2_with fail
  go_loop [6, 16] (fun v i => ∃ k : Nat, k ≤ l.length ∧ i = .int .i64 k ∧ v = .int .i64 (smF (gZ l) k) ∧ Hid (∀ j, j < k → 0 ≤ gZ l j ∧ gZ l j ≤ 65536)) (fun _ i => l.length - (intOf i).toNat)
  case atStart => exact ⟨0, by omega, rfl, by rw [smF_zero], hide (fun j hj => absurd hj (by omega))⟩
  case round =>
    obtain ⟨k, hk, rfl, rfl, hall⟩ := hrel
    have hb3 := smF_bd (gZ l) k hall.out k (Nat.le_refl _)
    obtain ⟨q2, q3⟩ := hb3
    by_cases hlt : k < l.length
    · obtain ⟨x, hx⟩ : ∃ x, l[k]? = some x := ⟨_, List.getElem?_eq_getElem hlt⟩
      obtain ⟨b, off, rfl, hc⟩ := hsh.out k x hx
      have hgk := gZ_of hx
      have he := smF_succ (gZ l) k
      rw [hgk] at he
      have heh := Lib.hid he
      have hgkh := Lib.hid hgk
      clear hx hgk he
      by_cases y0 : x < 0
      · have d0 : decide (x < 0) = true := decide_eq_true y0
        go_wp2_with fail
        go_ret2
        exact ⟨rfl, rfl⟩
      · have d0 : decide (x < 0) = false := decide_eq_false y0
        by_cases y1 : 65536 < x
        · have d1 : decide (65536 < x) = true := decide_eq_true y1
          go_wp2_with fail
          go_ret2
          exact ⟨rfl, rfl⟩
        · have d1 : decide (65536 < x) = false := decide_eq_false y1
          have hall2 : Hid (∀ j, j < k + 1 → 0 ≤ gZ l j ∧ gZ l j ≤ 65536) := hide (fun j hj => by
            by_cases e : j = k
            · rw [e, hgkh.out]; omega
            · exact hall.out j (by omega))
          go_wp2_with fail
          go_round
          case rel => exact ⟨k + 1, by omega, by go_num, by rw [heh.out], hall2⟩
          case measure => simp [intOf]; omega
    · obtain rfl : k = l.length := by omega
      have hwhy : R < 0 ∨ (0 ≤ R ∧ 1048576 < R) ∨ (0 ≤ R ∧ R ≤ 1048576 ∧ smF (gZ l) l.length = 0) ∨ (0 ≤ R ∧ R ≤ 1048576 ∧ smF (gZ l) l.length ≠ 0 ∧ 256 < l.length) := by
        have := hnoh.out
        unfold shOk at this
        by_cases c1 : R < 0
        · exact .inl c1
        · by_cases c2 : 1048576 < R
          · exact .inr (.inl ⟨by omega, c2⟩)
          · by_cases c3 : smF (gZ l) l.length = 0
            · exact .inr (.inr (.inl ⟨by omega, by omega, c3⟩))
            · by_cases c4 : 256 < l.length
              · exact .inr (.inr (.inr ⟨by omega, by omega, c3, c4⟩))
              · exact absurd ⟨by omega, by omega, by omega, hall.out, c3⟩ this
      clear hnoh hall
      generalize smF (gZ l) l.length = S at *
      rcases hwhy with h | ⟨h, h2⟩ | ⟨h, h2, h3⟩ | ⟨h, h2, h3, h4⟩
      · have d0 : decide (R < 0) = true := decide_eq_true h
        go_wp2_with fail
        go_ret2
        exact ⟨rfl, rfl⟩
      · have d0 : decide (R < 0) = false := decide_eq_false (by omega)
        have d1 : decide (1048576 < R) = true := decide_eq_true h2
        go_wp2_with fail
        go_ret2
        exact ⟨rfl, rfl⟩
      · have d0 : decide (R < 0) = false := decide_eq_false (by omega)
        have d1 : decide (1048576 < R) = false := decide_eq_false (by omega)
        have d2 : (S == 0) = true := by simp; exact h3
        go_wp2_with fail
        go_ret2
        exact ⟨rfl, rfl⟩
      · have d0 : decide (R < 0) = false := decide_eq_false (by omega)
        have d1 : decide (1048576 < R) = false := decide_eq_false (by omega)
        have d2 : (S == 0) = false := by simp; exact h3
        have d3 : decide ((256 : Int) < (l.length : Int)) = true := decide_eq_true (by omega)
        go_wp2_with fail
        go_ret2
        exact ⟨rfl, rfl⟩
end Go.Proofs.Ytchpiiccdoejdaa

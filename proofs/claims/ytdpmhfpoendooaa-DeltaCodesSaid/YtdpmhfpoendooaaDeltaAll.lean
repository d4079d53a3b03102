/- The contracts of NewReader, and of the document's All, Number, Take. Conditions: the slices read as named. -/
import Derived.Test.YtdpmhfpoendooaaDeltaGam
namespace Go.Proofs.Ytdpmhfpoendooaa
open Go.RowKit
theorem all_cat (D : Nat → Nat) (j i : Nat) (hi : i < 8 * j + 8) : catF (8 * j) (obF D) (bsF (D j) 8) i = obF D i := by
  unfold catF
  by_cases h : i < 8 * j
  · rw [if_pos h]
  · rw [if_neg h]
    obtain ⟨r, rfl⟩ : ∃ r, i = 8 * j + r := ⟨i - 8 * j, by omega⟩
    unfold bsF obF bitF
    rw [show (8 * j + r) / 8 = j by omega, show (8 * j + r) % 8 = r by omega, show 8 * j + r - 8 * j = r by omega, show 8 - 1 - r = 7 - r by omega]
theorem nu_shift (β : Nat → Nat) (q a k : Nat) : nuF (fun j => β (q + j)) a k = nuF β (q + a) k := by
  induction k with
  | zero => rw [nu_zero, nu_zero]
  | succ k ih => rw [nu_next, nu_next, ih, Nat.add_assoc]
theorem zeros (β : Nat → Nat) (h : Bit β) (T q : Nat) (hq : q ≤ T) : ∃ m, q + m ≤ T ∧ (∀ j, j < m → β (q + j) = 0) ∧ (q + m = T ∨ (q + m < T ∧ β (q + m) = 1)) := by
  have key : ∀ k, q + k ≤ T → (∃ m, q + m ≤ T ∧ (∀ j, j < m → β (q + j) = 0) ∧ (q + m < T ∧ β (q + m) = 1)) ∨ (∀ j, j < k → β (q + j) = 0) := by
    intro k
    induction k with
    | zero => exact fun _ => .inr (fun j hj => absurd hj (by omega))
    | succ k ih =>
      intro hk
      rcases ih (by omega) with h1 | h1
      · exact .inl h1
      · have hb := h (q + k)
        by_cases e : β (q + k) = 1
        · exact .inl ⟨k, by omega, h1, by omega, e⟩
        · refine .inr (fun j hj => ?_)
          by_cases hjk : j = k
          · subst hjk; omega
          · exact h1 j (by omega)
  rcases key (T - q) (by omega) with ⟨m, h1, h2, h3⟩ | h1
  · exact ⟨m, h1, h2, .inr h3⟩
  · exact ⟨T - q, by omega, h1, .inl (by omega)⟩
attribute [local irreducible] OwnB byF apF bitF putF ctF bsF gmF gmN nbF chF chN enN enB dlF lastF pxF obF nuF catF
def AllPost (W : World) (n : Nat) (f : Nat → Nat) (e : Ending) (W' : World) : Prop := ∃ v, e = .returned v ∧ OwnB W' W.heap.size v n f ∧ Below W.heap.size W W'
set_option maxHeartbeats 2000000 in
theorem dr_all (s : Option Addr) (L c : Nat) (D : Nat → Nat) (w : World) (hs : By w s L D) (hD : ∀ j, D j < 256) (hL : L ≤ 1000000) :
    Calls Try.prog 19 #[.slice s L c] w (AllPost w (8 * L) (obF D)) := by
  have hsh := Lib.hid hs
  have hDh := Lib.hid hD
  have kb := Lib.hid (fun v W => dr_bits v 8 W 8 (by decide))
  have hct := Lib.hid (fun j i h => all_cat D j i h)
  clear hs hD
  go_enter Try.func19, Try.ntmps19
  go_wp2_with fail
  go_loopw [3, 4] (fun ov iv wr => ∃ j : Nat, j ≤ L ∧ iv = .int .i64 (j : Nat) ∧ Hid (OwnB wr w.heap.size ov (8 * j) (obF D)) ∧ Hid (Below w.heap.size w wr)) (fun _ iv _ => L - (intOf iv).toNat)
  case atStart => exact ⟨0, Nat.zero_le _, rfl, hide (OwnB.nil _ _ _), hide (Below.refl _ _)⟩
  case round =>
    obtain ⟨j, hj, rfl, hO, hB⟩ := hrel
    by_cases hjL : j < L
    · have d1 : decide ((j : Int) < (L : Int)) = true := decide_eq_true (by omega)
      obtain ⟨b0, o0, hse, c0⟩ := (hsh.out.below hB.out) j hjL
      subst hse
      have hd := hDh.out j
      have hc := Lib.hid (hct.out j)
      generalize D j = x at *
      have kb1 := Lib.hid (kb.out x wr)
      generalize bsF x 8 = γ at *
      have hn8 : 8 * j ≤ 8000000 := by omega
      go_wp2_with fail
      refine kb1.out.mono ?_
      rintro e w2 ⟨s2, c2, rfl, hp2, hb2⟩
      have hO2 := Lib.hid (hO.out.below hb2)
      have hB2 := Lib.hid (below_step hB.out hB.out.size hb2)
      have hp2h := Lib.hid hp2
      have hsz := hB2.out.size
      clear hp2 hb2
      go_wp2_with (at_builtin; refine wpList_catB rfl (.tmp 11) (.tmp 17) rfl _ w.heap.size (8 * j) (obF D) rfl hO2.out s2 c2 8 γ rfl hp2h.out.rd hp2h.out.nil (by omega) hsz ?_; intro v' w4 ho hgr hbk; have hO4 := Lib.hid (ho.congr hc.out); have hB4 := Lib.hid (hO2.out.belowB hB2.out (Nat.le_refl _) hgr); clear ho hgr hbk)
      go_roundw
      case rel => exact ⟨j + 1, by omega, by go_num, by rw [show 8 * (j + 1) = 8 * j + 8 by omega]; exact hO4, hB4⟩
      case measure => simp [intOf]; omega
    · obtain rfl : j = L := by omega
      have d1 : decide ((j : Int) < (j : Int)) = false := by simp
      go_wp2_with fail
      go_ret
      exact ⟨_, rfl, hO.out, hB.out⟩
set_option maxHeartbeats 1000000 in
theorem dr_number (s : Option Addr) (n c : Nat) (f : Nat → Nat) (w : World) (hs : By w s n f) (hf : Bit f) (hn : n ≤ 64) :
    Calls Try.prog 26 #[.slice s n c] w (fun e w' => e = .returned (.int .u64 (nuF f 0 n : Nat)) ∧ w = w') := by
  have hsh := Lib.hid hs
  have hfh := Lib.hid hf
  have hnx := Lib.hid (fun j => nu_next f 0 j)
  have h63 := Lib.hid (fun j h => nu_63 f hf 0 j h)
  have hn0 := nu_zero f 0
  clear hs hf
  go_enter Try.func26, Try.ntmps26
  go_wp2_with fail
  go_loop [3, 4] (fun vv iv => ∃ j : Nat, j ≤ n ∧ vv = .int .u64 (nuF f 0 j : Nat) ∧ iv = .int .i64 (j : Nat)) (fun _ iv => n - (intOf iv).toNat)
  case atStart => exact ⟨0, Nat.zero_le _, by rw [hn0]; rfl, rfl⟩
  case round =>
    obtain ⟨j, hj, rfl, rfl⟩ := hrel
    by_cases hjn : j < n
    · have d1 : decide ((j : Int) < (n : Int)) = true := decide_eq_true (by omega)
      obtain ⟨b0, o0, hse, c0⟩ := hsh.out j hjn
      subst hse
      have e0 := hnx.out j
      have e1 := h63.out j (by omega)
      have e2 := hfh.out j
      rw [Nat.zero_add] at e0
      have hvv : ((nuF f 0 (j + 1) : Nat) : Int) = (nuF f 0 j : Nat) * 2 + (f j : Nat) := by omega
      have hvh := Lib.hid hvv
      clear hvv e0
      generalize nuF f 0 j = v at *
      generalize f j = x at *
      go_wp2_with fail
      go_round
      case rel => exact ⟨j + 1, by omega, by rw [hvh.out], by go_num⟩
      case measure => simp [intOf]; omega
    · obtain rfl : j = n := by omega
      have d1 : decide ((j : Int) < (j : Int)) = false := by simp
      go_wp2_with fail
      go_ret
      exact ⟨rfl, rfl⟩
end Go.Proofs.Ytdpmhfpoendooaa

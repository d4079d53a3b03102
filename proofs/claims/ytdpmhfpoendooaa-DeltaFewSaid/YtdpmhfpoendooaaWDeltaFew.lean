/- The walk of the law DeltaFew: it answers true for every list of inputs. -/
import Derived.Test.YtdpmhfpoendooaaDelta3
namespace Go.Proofs.Ytdpmhfpoendooaa
open Go.RowKit
theorem gm_le (n : Nat) (hn : n ≤ 4096) : gmN (n + 1) ≤ 25 := by have := nb_max (n + 1) 13 (by omega); unfold gmN; omega
def bsmF (L : Nat → Nat) (n k : Nat) : Int := (enN L n k : Int) - (gmN (n + 1) : Int)
theorem bsm_zero (L : Nat → Nat) (n : Nat) : bsmF L n 0 = 0 := by unfold bsmF enN; omega
theorem bsm_0 (L : Nat → Nat) (n k : Nat) (h : dlF L k = 0) : bsmF L n (k + 1) = bsmF L n k + 1 := by unfold bsmF; rw [enN_next, h, chN_0]; omega
theorem bsm_6 (L : Nat → Nat) (n k : Nat) (h0 : dlF L k ≠ 0) (h : dlF L k < 64) : bsmF L n (k + 1) = bsmF L n k + 1 + 7 := by unfold bsmF; rw [enN_next, chN_6 _ h0 h]; omega
theorem bsm_16 (L : Nat → Nat) (n k : Nat) (h : ¬ dlF L k < 64) : bsmF L n (k + 1) = bsmF L n k + 1 + 17 := by unfold bsmF; rw [enN_next, chN_16 _ h]; omega
theorem bsm_bd (L : Nat → Nat) (n k : Nat) (hn : n ≤ 4096) : 0 ≤ bsmF L n k ∧ bsmF L n k ≤ 18 * (k : Int) + 25 := by
  have h1 := en_le L n k hn
  have h0 : gmN (n + 1) ≤ enN L n k := by
    induction k with
    | zero => unfold enN; omega
    | succ k ih => rw [enN_next]; have := ih (en_le L n k hn); omega
  unfold bsmF; omega
theorem bsm_end (L : Nat → Nat) (n : Nat) (hn : n ≤ 4096) : 8 * (((enN L n n + 7) / 8 : Nat) : Int) ≤ bsmF L n n + 25 + 7 := by
  have := gm_le n hn
  unfold bsmF; omega
attribute [local irreducible] OwnB byF apF bitF putF ctF bsF gmF gmN nbF chF chN enN enB dlF lastF bsmF
set_option maxRecDepth 100000 in
set_option maxHeartbeats 2000000 in
theorem deltaFew_walk (a0 : Option Addr) (len0 cap0 : Nat) (z0 : List Int) (w : World) (w0 : IsRow .u16 w a0 len0 cap0 z0) :
    Calls Try.prog 3 #[.slice a0 len0 cap0] w fun e w' => e = .returned (.bool true) ∧ Below w.heap.size w w' := by
  obtain ⟨L, hs, hL, hc0, hc1, _⟩ := in_open w0
  unfold maxLen at hc1
  clear w0
  by_cases hlong : 4096 < len0
  · have d1 : decide (4096 < (len0 : Int)) = true := decide_eq_true (by omega)
    clear hs hL
    go_enter Try.func3, Try.ntmps3
    go_wp2_with fail
    refine (de_awake w).mono ?_
    rintro e w1 ⟨rfl, hb1⟩
    go_wp2_with fail
    go_ret
    exact ⟨rfl, hb1⟩
  have hn : len0 ≤ 4096 := by omega
  have hsh := Lib.hid hs
  have hLh := Lib.hid hL
  have hd := Lib.hid (fun k => dl_lt L hL k)
  have hll := Lib.hid (fun k => last_lt L hL k)
  have hdl := Lib.hid (fun k => dl_last L k)
  have hnx := Lib.hid (fun k => last_next L k)
  have hz := Lib.hid (bsm_zero L len0)
  have hb0 := Lib.hid (fun k h => bsm_0 L len0 k h)
  have hb6 := Lib.hid (fun k h0 h => bsm_6 L len0 k h0 h)
  have hb16 := Lib.hid (fun k h => bsm_16 L len0 k h)
  have hbd := Lib.hid (fun k => bsm_bd L len0 k hn)
  have hend := bsm_end L len0 hn
  have ks := Lib.hid (fun W h => d_size a0 len0 cap0 L W h hL hn)
  have hen : ((enN L len0 len0 + 7) / 8 : Nat) ≤ 10000 := by have := en_le L len0 len0 hn; omega
  generalize (enN L len0 len0 + 7) / 8 = N at *
  have hendh := Lib.hid hend
  clear hs hL hlong hend
  go_enter Try.func3, Try.ntmps3
  go_wp2_with fail
  refine (de_awake w).mono ?_
  rintro e w1 ⟨rfl, hb1⟩
  have hb1h := Lib.hid hb1
  clear hb1
  go_wp2_with fail
  go_loop [3, 4, 5] (fun bs la v => ∃ k : Nat, k ≤ len0 ∧ v = .int .i64 k ∧ la = .int .u16 (lastF L k : Nat) ∧ bs = .int .i64 (bsmF L len0 k)) (fun _ _ v => len0 - (intOf v).toNat)
  case atStart => exact ⟨0, Nat.zero_le _, rfl, by unfold lastF; rfl, by rw [hz.out]⟩
  case round =>
    obtain ⟨k, hk, rfl, rfl, rfl⟩ := hrel
    by_cases hlt : k < len0
    · obtain ⟨b, off, rfl, q0⟩ := hsh.out k hlt
      have c0 := (hb1h.out.cell (p := ⟨b, off + k, none⟩) (cell_block_lt q0)).trans q0
      have i1 : (k : Int) < (len0 : Int) := by omega
      have hx := u16_xor (L k) (lastF L k) (hLh.out k) (hll.out k)
      rw [hdl.out k] at hx
      have hdk := hd.out k
      have hlk := hLh.out k
      obtain ⟨s0, s1⟩ := hbd.out k
      have hnk := Lib.hid (hnx.out k)
      have k0 := Lib.hid (hb0.out k)
      have k6 := Lib.hid (hb6.out k)
      have k16 := Lib.hid (hb16.out k)
      clear q0
      rcases (show dlF L k = 0 ∨ (dlF L k ≠ 0 ∧ dlF L k < 64) ∨ ¬ dlF L k < 64 by omega) with h0 | ⟨h0, h64⟩ | h64
      · have e1 := Lib.hid (k0.out h0)
        have t1 : decide (((dlF L k : Nat) : Int) ≥ 64) = false := decide_eq_false (by omega)
        have t2 : decide (0 < ((dlF L k : Nat) : Int)) = false := decide_eq_false (by omega)
        have t3 : decide (0 < dlF L k) = false := decide_eq_false (by omega)
        clear h0 k0 k6 k16
        go_wp2_with fail
        go_round
        case rel => exact ⟨k + 1, by omega, by go_num, by rw [hnk.out], by rw [e1.out]⟩
        case measure => simp [intOf]; omega
      · have e1 := Lib.hid (k6.out h0 h64)
        have t1 : decide (((dlF L k : Nat) : Int) ≥ 64) = false := decide_eq_false (by omega)
        have t2 : decide (0 < ((dlF L k : Nat) : Int)) = true := decide_eq_true (by omega)
        have t3 : decide (0 < dlF L k) = true := decide_eq_true (by omega)
        clear h0 h64 k0 k6 k16
        go_wp2_with fail
        go_round
        case rel => exact ⟨k + 1, by omega, by go_num, by rw [hnk.out], by rw [e1.out]⟩
        case measure => simp [intOf]; omega
      · have e1 := Lib.hid (k16.out h64)
        have t1 : decide (((dlF L k : Nat) : Int) ≥ 64) = true := decide_eq_true (by omega)
        clear h64 k0 k6 k16
        go_wp2_with fail
        go_round
        case rel => exact ⟨k + 1, by omega, by go_num, by rw [hnk.out], by rw [e1.out]⟩
        case measure => simp [intOf]; omega
    · obtain rfl : k = len0 := by omega
      obtain ⟨s0, s1⟩ := hbd.out k
      have kk := Lib.hid (ks.out w1 (hsh.out.below hb1h.out))
      have hd1 := decide_eq_true hendh.out
      clear ks
      go_wp2_with fail
      refine kk.out.mono ?_
      rintro e w2 ⟨rfl, hb2⟩
      have hB := Lib.hid (below_step hb1h.out hb1h.out.size hb2)
      clear hb2
      go_wp2_with fail
      go_ret
      exact ⟨rfl, hB.out⟩
end Go.Proofs.Ytdpmhfpoendooaa

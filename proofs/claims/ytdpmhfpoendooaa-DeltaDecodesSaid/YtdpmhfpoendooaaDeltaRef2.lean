/- The contract of the document's Bytes of layer 33. Condition: the slice reads as the bits named. -/
import Derived.Test.YtdpmhfpoendooaaDeltaRef
namespace Go.Proofs.Ytdpmhfpoendooaa
open Go.RowKit
def pxF (f : Nat → Nat) (j i : Nat) : Nat := if i < j then f i else 0
theorem px_next (f : Nat → Nat) (j : Nat) : pxF f (j + 1) = putF (pxF f j) j (f j) := funext fun i => by
  unfold pxF putF
  by_cases e : i = j
  · subst e; simp
  · by_cases h : i < j
    · simp [e, h, show i < j + 1 by omega]
    · simp [e, h, show ¬ i < j + 1 by omega]
theorem px_zb (f : Nat → Nat) (j : Nat) : Zb j (pxF f j) := fun i hi => by unfold pxF; rw [if_neg (by omega)]
theorem px_bit (f : Nat → Nat) (n j : Nat) (h : ∀ i, i < n → f i ≤ 1) (hj : j ≤ n) : Bit (pxF f j) := fun i => by
  unfold pxF; split
  · exact h i (by omega)
  · omega
theorem px_all (f : Nat → Nat) (n : Nat) (h : Zb n f) : pxF f n = f := funext fun i => by
  unfold pxF
  by_cases e : i < n
  · rw [if_pos e]
  · rw [if_neg e, h i (by omega)]
theorem px_zero (f : Nat → Nat) : pxF f 0 = fun _ => 0 := funext fun i => by unfold pxF; rw [if_neg (by omega)]
theorem by_zero0 : byF (fun _ => 0) = fun _ => 0 := funext fun j => by unfold byF; simp
theorem sh128 (q : Nat) : (128 : Int) / 2 ^ (q % 8) = ((2 ^ (7 - q % 8) : Nat) : Int) := by
  have hr : q % 8 = 0 ∨ q % 8 = 1 ∨ q % 8 = 2 ∨ q % 8 = 3 ∨ q % 8 = 4 ∨ q % 8 = 5 ∨ q % 8 = 6 ∨ q % 8 = 7 := by omega
  rcases hr with hr | hr | hr | hr | hr | hr | hr | hr <;> rw [hr] <;> decide
theorem below_set {B g : Nat} {a w : World} (h : Below B a w) (hg : B ≤ g) (i : Nat) (v : Value) : Below B a (w.setCell ⟨g, i, none⟩ v) :=
  ⟨h.os, h.tape, h.output, by simpa [World.setCell] using h.size, fun b hb => (heap_setCell_other w ⟨g, i, none⟩ b v (by show b ≠ g; omega)).trans (h.block b hb)⟩
attribute [local irreducible] OwnB byF apF bitF putF ctF bsF gmF gmN nbF chF chN enN enB dlF lastF pxF
set_option maxHeartbeats 2000000 in
theorem dr_bytes (s : Option Addr) (n c : Nat) (f : Nat → Nat) (w : World) (hs : By w s n f) (hf : ∀ i, i < n → f i ≤ 1) (hn : n ≤ 1000000) :
    Calls Try.prog 17 #[.slice s n c] w (RowPost w ((n + 7) / 8) (byF (pxF f n))) := by
  have hmk := make_row (P := Try.prog) Try.underlying29 info8 ((n + 7) / 8) (by omega) (by decide) w
  have e1 : ((n : Int) + 7).tdiv 8 = (((n + 7) / 8 : Nat) : Int) := by rw [Int.tdiv_eq_ediv_of_nonneg (by omega)]; omega
  have hrow0 := brow_made w ((n + 7) / 8)
  have hshh := Lib.hid hs
  have hfh := Lib.hid hf
  have hnx := Lib.hid (fun j => px_next f j)
  have hzz := Lib.hid (fun j => px_zb f j)
  have hbb := Lib.hid (fun j => px_bit f n j hf)
  have hL8 : Hid (∀ j, j < n → j / 8 < (n + 7) / 8) := hide (fun j hj => by omega)
  have hL0 : (n + 7) / 8 ≤ 1000000 := by omega
  have e2 : IntKind.i64.wrap (((n + 7) / 8 : Nat) : Int) = (((n + 7) / 8 : Nat) : Int) := IntWalk.i64_in _ (by omega)
  clear hs hf
  generalize (n + 7) / 8 = L at *
  have hBd : Below w.heap.size w (w.alloc (.cells (madeCells #[.int .u8 0] L) 5)) := below_new1 w _
  have hBh := Lib.hid hBd
  have hr0 : Hid (BRow (w.alloc (.cells (madeCells #[.int .u8 0] L) 5)) w.heap.size L (byF (pxF f 0))) := hide (by rw [px_zero, by_zero0]; exact hrow0)
  clear hrow0 hBd
  go_enter Try.func17, Try.ntmps17
  go_wp2_with fail
  go_loopw [4] (fun iv wr => ∃ j : Nat, j ≤ n ∧ iv = .int .i64 (j : Nat) ∧ BRow wr w.heap.size L (byF (pxF f j)) ∧ Below w.heap.size w wr) (fun iv _ => n - (intOf iv).toNat)
  case atStart => exact ⟨0, Nat.zero_le _, rfl, hr0.out, hBh.out⟩
  case round =>
    obtain ⟨j, hj, rfl, hrow, hB⟩ := hrel
    by_cases hjn : j < n
    · have d0 : decide ((j : Int) < (n : Int)) = true := decide_eq_true (by omega)
      obtain ⟨b0, o0, hse, hc0⟩ := (hshh.out.below hB) j hjn
      have hsz := hB.size
      have hgl := hrow.lt
      have hx := hfh.out j hjn
      have hL := hL8.out j hjn
      have hn1 := hnx.out j
      have hz := hzz.out j
      have hbt := hbb.out j hj
      subst hse
      generalize f j = x at *
      have hrh := Lib.hid hrow
      have hBh := Lib.hid hB
      rcases (show x = 0 ∨ x = 1 by omega) with rfl | rfl
      · rw [put_none _ _ hz] at hn1
        have hn1h := Lib.hid hn1
        clear hn1 hrow hB hz hbt
        have d1 : ((0 : Int) == 1) = false := by decide
        go_wp2_with fail
        go_roundw
        case rel => exact ⟨j + 1, by omega, by go_num, by rw [hn1h.out]; exact hrh.out, hBh.out⟩
        case measure => simp [intOf]; omega
      · have hn1h := Lib.hid hn1
        have hb2 := by_put (pxF f j) j
        have hlt := by_lt (pxF f j) hbt (j / 8)
        have hlt2 := by_lt (putF (pxF f j) j 1) (put_bit hbt j 1 (Nat.le_refl _)) (j / 8)
        rw [by_put _ _ _ hz, if_pos rfl] at hlt2
        have xb := FRow.cell hrow (j / 8) hL
        have fb := FRow.fr hrow (j / 8)
        have q1 : (j : Int).tdiv 8 = (j : Int) / 8 := Int.tdiv_eq_ediv_of_nonneg (by omega)
        have q2 : IntKind.i64.wrap ((j : Int) / 8) = (j : Int) / 8 := IntWalk.i64_in _ (by omega)
        have q3 : (j : Int) / 8 < (L : Int) := by omega
        have q4 : 0 ≤ (j : Int) / 8 := by omega
        have q5 : ((j : Int) / 8).toNat = j / 8 := by omega
        have q6 : (j : Int).tmod 8 = (j : Int) % 8 := Int.tmod_eq_emod_of_nonneg (by omega)
        have q7 : IntKind.i64.wrap ((j : Int) % 8) = (j : Int) % 8 := IntWalk.i64_in _ (by omega)
        have q8 : ((j : Int) % 8).toNat = j % 8 := by omega
        have q9 : ¬ (j : Int) % 8 < 0 := by omega
        have hsh := sh128 j
        have hzh := Lib.hid hz
        have hst := Lib.hid (show BRow (wr.setCell ⟨w.heap.size, j / 8, none⟩ (.int .u8 ((byF (pxF f j) (j / 8) + 2 ^ (7 - j % 8) : Nat) : Int))) w.heap.size L (byF (pxF f (j + 1))) from (hrow.set (j / 8) (byF (pxF f j) (j / 8) + 2 ^ (7 - j % 8))).congr (fun i _ => by
          rw [hn1h.out, by_put _ _ _ hzh.out]
          by_cases e : i = j / 8
          · subst e; simp
          · simp [e]))
        have hB2 := Lib.hid (below_set hBh.out (Nat.le_refl w.heap.size) (j / 8) (.int .u8 ((byF (pxF f j) (j / 8) + 2 ^ (7 - j % 8) : Nat) : Int)))
        clear hn1 hrow hB hz hbt hb2
        generalize 2 ^ (7 - j % 8) = P at *
        generalize byF (pxF f j) (j / 8) = Y at *
        rw [show ((Y + P : Nat) : Int) = (Y : Int) + P by omega] at hst hB2
        go_upto_region 6 with (fail)
        go_still_tail 13, (by kernel_rfl)
        go_wp2_with fail
        go_roundw
        case rel => exact ⟨j + 1, by omega, by go_num, hst.out, below_drewN hB2.out 1⟩
        case measure => simp [intOf]; omega
    · obtain rfl : j = n := by omega
      have d0 : decide ((j : Int) < (j : Int)) = false := by simp
      have hl := hrow.lt
      have hrh := Lib.hid hrow
      have hBh := Lib.hid hB
      clear hrow hB
      go_wp2_with fail
      go_ret
      exact ⟨_, L, rfl, Nat.le_refl _, Nat.le_refl _, by unfold maxLen; omega, hrh.out, hBh.out⟩
end Go.Proofs.Ytdpmhfpoendooaa

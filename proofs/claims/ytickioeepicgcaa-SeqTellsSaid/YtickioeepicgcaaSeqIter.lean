/- The contract of package seq's Missing: what its iterator yields. Conditions: the state lies at the pointer. -/
import Derived.Test.YtickioeepicgcaaSeqHas
import Derived.RangeFuncNested
import Derived.RangeFuncBound
import Derived.RangeFuncCalls
import Derived.RangeFuncLeaves
import Derived.RangeFuncBox
import Derived.Shelf.Abstract
import Derived.Shelf.RegionOpen
import Derived.WalkKit
import Derived.OwnWalkIn
import Derived.TacticsInMore
import Derived.LoopNIn
import Derived.LoopIn
import Derived.Maps.AppendAt
namespace Go.Proofs.Ytickioeepicgcaa
open Go.RowKit Go.Shelf
attribute [local irreducible] behindZ bw goneM sqLost sqHoles sqHas sqTake sqA rkA
attribute [local go_sem] Oper.semAt_some
/-- the number that stands i behind the newest one -/
def msZ (t : Int) (i : Nat) : Int := (t - (i : Int)) % 4294967296
/-- the missing ones of the first j marks, from the oldest one on -/
def msL (s : SqS) : Nat → List Int
  | 0 => []
  | j + 1 => msL s j ++ (if s.m (63 - j) then [] else [msZ s.top (63 - j)])
theorem msL_0 (s : SqS) : msL s (64 - 64) = [] := rfl
theorem msL_hit (s : SqS) (k : Nat) (hk : k < 64) (h : s.m k = false) : msL s (64 - k) = msL s (64 - (k + 1)) ++ [msZ s.top k] := by
  rw [show 64 - k = (63 - k) + 1 by omega, show 64 - (k + 1) = 63 - k by omega]
  simp only [msL]
  rw [show 63 - (63 - k) = k by omega, h]
  simp
theorem msL_miss (s : SqS) (k : Nat) (hk : k < 64) (h : s.m k = true) : msL s (64 - k) = msL s (64 - (k + 1)) := by
  rw [show 64 - k = (63 - k) + 1 by omega, show 64 - (k + 1) = 63 - k by omega]
  simp only [msL]
  rw [show 63 - (63 - k) = k by omega, h]
  simp
theorem msL_len (s : SqS) (j : Nat) : (msL s j).length ≤ j := by
  induction j with
  | zero => simp [msL]
  | succ j ih => simp only [msL, List.length_append]; split <;> simp <;> omega
def msAll (s : SqS) : List Int := if s.any then msL s 64 else []
attribute [local irreducible] msL msZ
set_option maxRecDepth 100000 in
set_option maxHeartbeats 2000000 in
theorem s_missing1 (F : Fence) (n : Nat) (h6 : F.fn 20) (hro : F.round = none) (hn : 1 ≤ n) (l Bn p n₀ : Nat) (s : SqS) (J Jx : List Int → World → Prop)
    (hY : ∀ pre x W, J pre W → pre.length < 64 → YieldAt F (n - 1) Try.prog l #[.int .u32 x] W fun e W' =>
      (e = .returned (.bool true) ∧ J (pre ++ [x]) W' ∧ Below n₀ W W') ∨ (e = .returned (.bool false) ∧ Jx (pre ++ [x]) W'))
    (W : World) (hBn : Bn < n₀) (hpn : p < n₀) (hB : W.cell? ⟨Bn, 0, none⟩ = some (.pointer (some ⟨p, 0, none⟩))) (hS : SqAt W p s) (h0 : J [] W) :
    CallsIn F n Try.prog 20 #[.func (.yield l) #[] #[], .pointer (some ⟨Bn, 0, none⟩)] W fun e W' => (∃ v, e = .returned v) ∧
      ((∃ ys, ys = msAll s ∧ J ys W') ∨ (∃ pre : List Int, True ∧ Jx pre W')) := by
  have c0 : W.cell? ⟨p, 0, none⟩ = some (.bool s.any) := by rw [cell_of_block hS]; unfold sqA; rfl
  refine callsIn_of_wp Try.func20 rfl h6 ?_ hro
  simp only [Try.ntmps20, List.size_toArray, List.length_cons, List.length_nil, Nat.reduceAdd, Nat.reduceSub, Array.replicate_succ, Array.replicate_zero, List.push_toArray, List.append_toArray, List.nil_append, List.cons_append]
  cases ha : s.any
  · rw [ha] at c0
    have hall : msAll s = [] := by unfold msAll; rw [ha]; rfl
    clear ha
    gi_wp2
    refine bodyPost_ret (results_none rfl _ _ _) rfl ?_
    exact ⟨⟨_, rfl⟩, .inl ⟨[], hall.symm, h0⟩⟩
  · rw [ha] at c0
    have hall : Hid (msAll s = msL s 64) := hide (by unfold msAll; rw [ha]; rfl)
    clear ha
    gi_wp2
    gi_loopw [3] (fun i wr => ∃ r : Nat, r ≤ 64 ∧ i = .int .i64 ((r : Int) - 1) ∧ wr.cell? ⟨Bn, 0, none⟩ = some (.pointer (some ⟨p, 0, none⟩)) ∧ Hid (SqAt wr p s) ∧ J (msL s (64 - r)) wr)
      (fun i _ => (intOf i + 1).toNat)
    case atStart => exact ⟨64, Nat.le_refl _, rfl, hB, hide hS, by rw [msL_0]; exact h0⟩
    case round =>
      obtain ⟨r, hr, rfl, hB1, hS1, hJs⟩ := hrel
      clear hB hS h0 c0
      rcases r with _ | k
      · gi_wp2
        go_end0
        exact ⟨⟨_, rfl⟩, .inl ⟨_, hall.out.symm, hJs⟩⟩
      · rw [show ((k + 1 : Nat) : Int) - 1 = (k : Int) by omega]
        have c1 : wr.cell? ⟨p, 1, none⟩ = some (.int .u32 s.top) := by rw [cell_of_block hS1.out]; unfold sqA; rfl
        have c2 : wr.cell? ⟨p, 2, none⟩ = some (.int .u64 (bw s.m : Nat)) := by rw [cell_of_block hS1.out]; unfold sqA; rfl
        have hpn' := hpn
        have hk64 : (k : Int) < 64 := by omega
        cases hm : s.m k
        · have hb := mv_yes s.m k (by omega) hm
          have hlen : (msL s (64 - (k + 1))).length < 64 := by have := msL_len s (64 - (k + 1)); omega
          have hnx := Lib.hid (msL_hit s k (by omega) hm)
          obtain ⟨fn, tmps, assign, body, hy, hR⟩ := hY _ (msZ s.top k) wr hJs hlen
          unfold msZ at hy
          clear hm hlen
          gi_wp2
          refine hR.mono ?_
          rintro e W3 (⟨rfl, hJ3, hk3⟩ | ⟨rfl, hx3⟩)
          · have hB3 : Hid (W3.cell? ⟨Bn, 0, none⟩ = some (.pointer (some ⟨p, 0, none⟩))) := hide ((hk3.cell (p := ⟨Bn, 0, none⟩) hBn).trans hB1)
            have hS3 : Hid (SqAt W3 p s) := hide (by unfold SqAt; rw [hk3.block p hpn]; exact hS1.out)
            clear hB1 c1 c2
            gi_wp2
            go_roundw
            case rel => exact ⟨k, by omega, rfl, hB3.out, hS3, by rw [hnx.out]; exact hJ3⟩
            case measure => simp [intOf]
          · gi_wp2
            refine bodyPost_ret (results_none rfl _ _ _) rfl ?_
            exact ⟨⟨_, rfl⟩, .inr ⟨_, trivial, hx3⟩⟩
        · have hb := mv_no s.m k (by omega) hm
          have hnx := Lib.hid (msL_miss s k (by omega) hm)
          clear hm
          gi_wp2
          refine ⟨fun _ h => (by cases h), ?_⟩
          gi_wp2
          go_roundw
          case rel => exact ⟨k, by omega, rfl, hB1, hS1, by rw [hnx.out]; exact hJs⟩
          case measure => simp [intOf]
set_option maxHeartbeats 1000000 in
theorem s_missing (p : Nat) (w : World) :
    Calls Try.prog 18 #[.pointer (some ⟨p, 0, none⟩)] w fun e w' => e = .returned (.func (.func 20) #[] #[.pointer (some ⟨w.heap.size, 0, none⟩)]) ∧ w.alloc (.cells #[.pointer (some ⟨p, 0, none⟩)] 44) = w' := by
  go_enter Try.func18, Try.ntmps18
  go_wp2
  go_ret
  exact ⟨rfl, rfl⟩
theorem s_missing_stops (F : Fence) (n : Nat) (h6 : F.fn 20) (hro : F.round = none) (hn : 1 ≤ n) (Bn p n₀ : Nat) (s : SqS) (w : World) (hBn : Bn < n₀) (hpn : p < n₀) (hn₀ : n₀ ≤ w.heap.size)
    (hB : w.cell? ⟨Bn, 0, none⟩ = some (.pointer (some ⟨p, 0, none⟩))) (hS : SqAt w p s) :
    SeqStopsK F n Try.prog 20 #[.pointer (some ⟨Bn, 0, none⟩)] (fun x : Int => #[Value.int .u32 x]) (Below n₀) (fun ys => ys = msAll s) (fun _ => True) 64 w := fun l J Jx W hW _ _ hY h0 =>
  s_missing1 F n h6 hro hn l Bn p n₀ s J Jx hY W hBn hpn ((hW.cell (p := ⟨Bn, 0, none⟩) (by show Bn < _; omega)).trans hB) (by unfold SqAt; rw [hW.block p (by omega)]; exact hS) h0
end Go.Proofs.Ytickioeepicgcaa

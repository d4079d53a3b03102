/- The contracts of package backstayref01's wide numbers: digits to the base 65536 with a sign. Conditions: the struct handed in is the one of a sign and a number below 65536 to the 9th. -/
import Derived.Test.YtangfbahljdbhaaAid
import Derived.Test.YtangfbahljdbhaaWidePlain
import Derived.Laws.Rows
import Derived.Laws.CopyOwn
namespace Go.Proofs.Ytangfbahljdbhaa
open Go.RowKit
/-- the struct of a sign and nine digits -/
def wideA (m : Bool) (d : Nat → Nat) : Array Value :=
  #[.bool m, .int .u64 (d 0 : Nat), .int .u64 (d 1 : Nat), .int .u64 (d 2 : Nat), .int .u64 (d 3 : Nat), .int .u64 (d 4 : Nat), .int .u64 (d 5 : Nat), .int .u64 (d 6 : Nat), .int .u64 (d 7 : Nat), .int .u64 (d 8 : Nat)]
theorem nine (k : Nat) (h : k < 9) : k = 0 ∨ k = 1 ∨ k = 2 ∨ k = 3 ∨ k = 4 ∨ k = 5 ∨ k = 6 ∨ k = 7 ∨ k = 8 := by omega
theorem wideA_set (m : Bool) (d : Nat → Nat) (k x : Nat) (h : k < 9) : (wideA m d).setIfInBounds (1 + k) (.int .u64 (x : Nat)) = wideA m (fun i => if i = k then x else d i) := by
  rcases nine k h with rfl | rfl | rfl | rfl | rfl | rfl | rfl | rfl | rfl <;> rfl
theorem wideA_set0 (m n : Bool) (d : Nat → Nat) : (wideA m d).setIfInBounds 0 (.bool n) = wideA n d := rfl
theorem wideA_get (m : Bool) (d : Nat → Nat) (k : Nat) (h : k < 9) : (wideA m d)[1 + k]? = some (.int .u64 (d k : Nat)) := by
  rcases nine k h with rfl | rfl | rfl | rfl | rfl | rfl | rfl | rfl | rfl <;> rfl
theorem wideA_get0 (m : Bool) (d : Nat → Nat) : (wideA m d)[0]? = some (.bool m) := rfl
theorem wideA_size (m : Bool) (d : Nat → Nat) : (wideA m d).size = 10 := rfl
theorem wideA_congr (m : Bool) {d d' : Nat → Nat} (h : ∀ i, i < 9 → d i = d' i) : wideA m d = wideA m d' := by
  unfold wideA
  rw [h 0 (by decide), h 1 (by decide), h 2 (by decide), h 3 (by decide), h 4 (by decide), h 5 (by decide), h 6 (by decide), h 7 (by decide), h 8 (by decide)]
theorem wideA_sz (m n : Bool) (d e : Nat → Nat) : (wideA m d).size = (wideA n e).size := rfl
theorem wideA_one (m : Bool) (d : Nat → Nat) : (wideA m d).all (·.oneCell') = true := by simp [wideA, Value.oneCell']
theorem wide_info (m : Bool) (d : Nat → Nat) : (Try.prog.info? 40).map (·.size) = some (wideA m d).size := by
  rw [wideA_size]; kernel_rfl
theorem zeroWide (w : World) : (zeroValue 40).run Try.prog w = .ok (.agg (wideA false (fun _ => 0))) w := by kernel_rfl
def WidePost (W : World) (m : Bool) (v : Nat) (e : Ending) (W' : World) : Prop := e = .returned (.agg (wideA m (dg v))) ∧ Below W.heap.size W W'
attribute [local irreducible] wideA dg

theorem ofq (N k : Nat) : ((N / 65536 ^ k : Nat) : Int) / 65536 = ((N / 65536 ^ (k + 1) : Nat) : Int) := by
  rw [Nat.pow_succ, ← Nat.div_div_eq_div_mul]; simp
theorem ofr (N k : Nat) : ((N / 65536 ^ k : Nat) : Int) % 65536 = ((dg N k : Nat) : Int) := by
  unfold dg; simp
theorem of_next (N k : Nat) (i : Nat) (_ : i < 9) : (if i = k then dg N k else if i < k then dg N i else 0) = if i < k + 1 then dg N i else 0 := by
  by_cases h : i = k
  · subst h; simp
  · rw [if_neg h]
    by_cases h2 : i < k
    · rw [if_pos h2, if_pos (by omega)]
    · rw [if_neg h2, if_neg (by omega)]
theorem of_last (N : Nat) (h : N < 65536 ^ 4) (i : Nat) (_ : i < 9) : (if i < 4 then dg N i else 0) = dg N i := by
  split
  · rfl
  · exact (dg_over N i 4 h (by omega)).symm
set_option maxHeartbeats 400000 in
theorem r_of (n : Int) (w : World) (hn : -9223372036854775808 ≤ n ∧ n ≤ 9223372036854775807) :
    Calls Try.prog 33 #[.int .i64 n] w (WidePost w (decide (n < 0)) n.natAbs) := by
  obtain ⟨n1, n2⟩ := hn
  have hz := zeroWide
  have g0 := wideA_get0 false (fun _ => 0)
  by_cases hneg : n < 0
  · go_enter Try.func33, Try.ntmps33
    go_wp2_with fail
    go_loopw [4, 5] (fun v i wr => ∃ k : Nat, k ≤ 4 ∧ i = .int .i64 k ∧ v = .int .u64 (n.natAbs / 65536 ^ k : Nat) ∧ wr.heap[w.heap.size]? = some (.cells (wideA false (fun _ => 0)) 40 (0, 0)) ∧ wr.heap[w.heap.size + 1]? = some (.cells (wideA true (fun i => if i < k then dg n.natAbs i else 0)) 40 (0, 0)) ∧ Below w.heap.size w wr) (fun _ i _ => 4 - (intOf i).toNat)
    case atStart => exact ⟨0, by omega, rfl, by rw [IntKind.wrap_u64, IntKind.wrap_u64, Nat.pow_zero, Nat.div_one]; congr 1; omega, (heap_alloc2_old _ _ _), by rw [heap_alloc2_new, wideA_set0]; exact congrArg (fun a => some (Obj.cells a _ (0, 0))) (wideA_congr _ (fun i _ => by simp)), ((Below.refl _ _).alloc (Nat.le_refl _) _).alloc (by simp) _⟩
    case round =>
      obtain ⟨k, hk, rfl, rfl, hb0, hb1, hbel⟩ := hrel
      by_cases hlt : k < 4
      · have hsz : w.heap.size + 1 < wr.heap.size := (Array.getElem?_eq_some_iff.1 hb1).1
        have hc : wr.cell? ⟨w.heap.size + 1, 1 + k, none⟩ = some (.int .u64 ((if k < k then dg n.natAbs k else 0 : Nat) : Int)) := by
          rw [cell_of_block hb1]; exact wideA_get _ _ k (by omega)
        have hf : wr.frozen? ⟨w.heap.size + 1, 1 + k, none⟩ = false := frozen_blk hb1
        have hN : n.natAbs / 65536 ^ k < 18446744073709551616 := Nat.lt_of_le_of_lt (Nat.div_le_self _ _) (by omega)
        have hq := hide (ofq n.natAbs k)
        have hr := hide (ofr n.natAbs k)
        have hb0h := hide hb0
        have hb1h := hide hb1
        clear hb0 hb1
        generalize hy : n.natAbs / 65536 ^ k = y at *
        have hyh := hide hy
        clear hy
        go_wp2_with fail
        rw [hq.out, hr.out]
        go_roundw
        case rel => 
          refine ⟨k + 1, by omega, by go_num, rfl, blk_set_other hb0h.out (by omega) _ _, ?_, hbel.setCell (by simp) _⟩
          rw [blk_set hb1h.out, wideA_set _ _ _ _ (by omega)]
          exact congrArg (fun a => some (Obj.cells a _ (0, 0))) (wideA_congr _ (of_next _ k))
        case measure => simp [intOf]; omega
      · obtain rfl : k = 4 := by omega
        have hv := hide (wideA_congr true (of_last n.natAbs (by omega)))
        rw [hv.out] at hb1
        clear hz
        go_wp2_with (first | (refine wpList_load_row rfl _ _ rfl _ rfl _ _ _ _ hb1 Try.underlying40 rfl (wide_info _ _) ?_) | (refine wpList_store_row rfl _ _ _ rfl _ _ rfl rfl _ _ hb0 (wide_info _ _) (wideA_sz _ _ _ _) (wideA_one _ _) ?_))
        refine bodyPost_ret (v := .agg (wideA true (dg n.natAbs))) (results_cell_row rfl _ _ w.heap.size 40 (wideA true (dg n.natAbs)) (0, 0) _ rfl ?_ Try.underlying40 rfl (wide_info _ _)) rfl ?_
        · exact setRow_heap _ _ _ _ _ _ hb0
        · exact ⟨by rw [decide_eq_true hneg], below_setRow hbel (Nat.le_refl _) _⟩
  · go_enter Try.func33, Try.ntmps33
    go_wp2_with fail
    go_loopw [4, 5] (fun v i wr => ∃ k : Nat, k ≤ 4 ∧ i = .int .i64 k ∧ v = .int .u64 (n.natAbs / 65536 ^ k : Nat) ∧ wr.heap[w.heap.size]? = some (.cells (wideA false (fun _ => 0)) 40 (0, 0)) ∧ wr.heap[w.heap.size + 1]? = some (.cells (wideA false (fun i => if i < k then dg n.natAbs i else 0)) 40 (0, 0)) ∧ Below w.heap.size w wr) (fun _ i _ => 4 - (intOf i).toNat)
    case atStart => exact ⟨0, by omega, rfl, by rw [Nat.pow_zero, Nat.div_one]; congr 1; omega, (heap_alloc2_old _ _ _), by rw [heap_alloc2_new]; exact congrArg (fun a => some (Obj.cells a _ (0, 0))) (wideA_congr _ (fun i _ => by simp)), ((Below.refl _ _).alloc (Nat.le_refl _) _).alloc (by simp) _⟩
    case round =>
      obtain ⟨k, hk, rfl, rfl, hb0, hb1, hbel⟩ := hrel
      by_cases hlt : k < 4
      · have hsz : w.heap.size + 1 < wr.heap.size := (Array.getElem?_eq_some_iff.1 hb1).1
        have hc : wr.cell? ⟨w.heap.size + 1, 1 + k, none⟩ = some (.int .u64 ((if k < k then dg n.natAbs k else 0 : Nat) : Int)) := by
          rw [cell_of_block hb1]; exact wideA_get _ _ k (by omega)
        have hf : wr.frozen? ⟨w.heap.size + 1, 1 + k, none⟩ = false := frozen_blk hb1
        have hN : n.natAbs / 65536 ^ k < 18446744073709551616 := Nat.lt_of_le_of_lt (Nat.div_le_self _ _) (by omega)
        have hq := hide (ofq n.natAbs k)
        have hr := hide (ofr n.natAbs k)
        have hb0h := hide hb0
        have hb1h := hide hb1
        clear hb0 hb1
        generalize hy : n.natAbs / 65536 ^ k = y at *
        have hyh := hide hy
        clear hy
        go_wp2_with fail
        rw [hq.out, hr.out]
        go_roundw
        case rel => 
          refine ⟨k + 1, by omega, by go_num, rfl, blk_set_other hb0h.out (by omega) _ _, ?_, hbel.setCell (by simp) _⟩
          rw [blk_set hb1h.out, wideA_set _ _ _ _ (by omega)]
          exact congrArg (fun a => some (Obj.cells a _ (0, 0))) (wideA_congr _ (of_next _ k))
        case measure => simp [intOf]; omega
      · obtain rfl : k = 4 := by omega
        have hv := hide (wideA_congr false (of_last n.natAbs (by omega)))
        rw [hv.out] at hb1
        clear hz
        go_wp2_with (first | (refine wpList_load_row rfl _ _ rfl _ rfl _ _ _ _ hb1 Try.underlying40 rfl (wide_info _ _) ?_) | (refine wpList_store_row rfl _ _ _ rfl _ _ rfl rfl _ _ hb0 (wide_info _ _) (wideA_sz _ _ _ _) (wideA_one _ _) ?_))
        refine bodyPost_ret (v := .agg (wideA false (dg n.natAbs))) (results_cell_row rfl _ _ w.heap.size 40 (wideA false (dg n.natAbs)) (0, 0) _ rfl ?_ Try.underlying40 rfl (wide_info _ _)) rfl ?_
        · exact setRow_heap _ _ _ _ _ _ hb0
        · exact ⟨by rw [decide_eq_false (by omega)], below_setRow hbel (Nat.le_refl _) _⟩

theorem upd_next (f g : Nat → Nat) (k : Nat) (i : Nat) : (if i = k then g k else if i < k then g i else f i) = if i < k + 1 then g i else f i := by
  by_cases h : i = k
  · subst h; simp
  · rw [if_neg h]
    by_cases h2 : i < k
    · rw [if_pos h2, if_pos (by omega)]
    · rw [if_neg h2, if_neg (by omega)]
theorem wideA_full (m : Bool) (f g : Nat → Nat) : wideA m (fun i => if i < 9 then f i else g i) = wideA m f := wideA_congr m (fun i hi => if_pos hi)
theorem int_mod (n : Nat) : (n : Int) % 65536 = ((n % 65536 : Nat) : Int) := by simp
theorem int_div (n : Nat) : (n : Int) / 65536 = ((n / 65536 : Nat) : Int) := by simp

set_option maxHeartbeats 400000 in
theorem r_plus (ma mb : Bool) (va vb : Nat) (w : World) :
    Calls Try.prog 50 #[.agg (wideA ma (dg va)), .agg (wideA mb (dg vb))] w (WidePost w ma (va + vb)) := by
  have hz := zeroWide
  go_enter Try.func50, Try.ntmps50
  go_wp2_with fail
  go_loopw [5, 6] (fun v i wr => ∃ k : Nat, k ≤ 9 ∧ i = .int .i64 k ∧ v = .int .u64 (carryP va vb k : Nat) ∧ wr.heap[w.heap.size]? = some (.cells (wideA ma (fun i => if i < k then dg (va + vb) i else dg va i)) 40 (0, 0)) ∧ wr.heap[w.heap.size + 1]? = some (.cells (wideA mb (dg vb)) 40 (0, 0)) ∧ wr.heap[w.heap.size + 2]? = some (.cells (wideA false (fun _ => 0)) 40 (0, 0)) ∧ Below w.heap.size w wr) (fun _ i _ => 9 - (intOf i).toNat)
  case atStart => exact ⟨0, by omega, rfl, by rw [carryP_zero]; rfl, by rw [blk_alloc (blk_alloc (last_block0 w _ _ rfl) _) _]; exact congrArg (fun a => some (Obj.cells a _ (0, 0))) (wideA_congr _ (fun i _ => by simp)), blk_alloc (last_block0 _ _ _ (by simp)) _, last_block0 _ _ _ (by simp), (((Below.refl _ _).alloc (Nat.le_refl _) _).alloc (by simp) _).alloc (by simp; omega) _⟩
  case round =>
    obtain ⟨k, hk, rfl, rfl, hb0, hb1, hb2, hbel⟩ := hrel
    clear hz
    by_cases hlt : k < 9
    · have hsz : w.heap.size + 2 < wr.heap.size := (Array.getElem?_eq_some_iff.1 hb2).1
      have hc0 : wr.cell? ⟨w.heap.size, 1 + k, none⟩ = some (.int .u64 (dg va k : Nat)) := by
        rw [cell_of_block hb0, wideA_get _ _ k (by omega), if_neg (Nat.lt_irrefl k)]
      have hc1 : wr.cell? ⟨w.heap.size + 1, 1 + k, none⟩ = some (.int .u64 (dg vb k : Nat)) := by
        rw [cell_of_block hb1, wideA_get _ _ k (by omega)]
      have hf : wr.frozen? ⟨w.heap.size, 1 + k, none⟩ = false := frozen_blk hb0
      have hx := dg_lt va k
      have hy := dg_lt vb k
      have hc := carryP_le va vb k
      have hq := hide (add_dg va vb k)
      have hr := hide (add_carry va vb k)
      have hb0h := hide hb0
      have hb1h := hide hb1
      have hb2h := hide hb2
      clear hb0 hb1 hb2
      generalize dg va k = x at *
      generalize dg vb k = y at *
      generalize carryP va vb k = c at *
      go_wp2_with fail
      go_quiet (fail)
      go_wp2_with fail
      rw [show ((x : Int) + y + c) = ((x + y + c : Nat) : Int) by simp, int_mod, int_div, hq.out, hr.out]
      go_roundw
      case rel =>
        refine ⟨k + 1, by omega, by go_num, rfl, ?_, blk_set_other (blk_drewN hb1h.out _) (by omega) _ _, blk_set_other (blk_drewN hb2h.out _) (by omega) _ _, (below_drewN hbel _).setCell (Nat.le_refl _) _⟩
        rw [blk_set (blk_drewN hb0h.out _), wideA_set _ _ _ _ (by omega)]
        exact congrArg (fun a => some (Obj.cells a _ (0, 0))) (wideA_congr _ (fun i _ => upd_next (dg va) (dg (va + vb)) k i))
      case measure => simp [intOf]; omega
    · obtain rfl : k = 9 := by omega
      have hv := hide (wideA_full ma (dg (va + vb)) (dg va))
      rw [hv.out] at hb0
      go_wp2_with (first | (refine wpList_load_row rfl _ _ rfl _ rfl _ _ _ _ hb0 Try.underlying40 rfl (wide_info _ _) ?_) | (refine wpList_store_row rfl _ _ _ rfl _ _ rfl rfl _ _ hb2 (wide_info _ _) (wideA_sz _ _ _ _) (wideA_one _ _) ?_))
      refine bodyPost_ret (v := .agg (wideA ma (dg (va + vb)))) (results_cell_row rfl _ _ (w.heap.size + 2) 40 (wideA ma (dg (va + vb))) (0, 0) _ rfl ?_ Try.underlying40 rfl (wide_info _ _)) rfl ?_
      · exact setRow_heap _ _ _ _ _ _ hb2
      · exact ⟨rfl, below_setRow hbel (by omega) _⟩

set_option maxHeartbeats 400000 in
theorem r_minus (ma mb : Bool) (va vb : Nat) (w : World) (hle : vb ≤ va) :
    Calls Try.prog 52 #[.agg (wideA ma (dg va)), .agg (wideA mb (dg vb))] w (WidePost w ma (va - vb)) := by
  have hz := zeroWide
  go_enter Try.func52, Try.ntmps52
  go_wp2_with fail
  go_loopw [5, 6] (fun v i wr => ∃ k : Nat, k ≤ 9 ∧ i = .int .i64 k ∧ v = .int .u64 (borrowP va vb k : Nat) ∧ wr.heap[w.heap.size]? = some (.cells (wideA ma (fun i => if i < k then dg (va - vb) i else dg va i)) 40 (0, 0)) ∧ wr.heap[w.heap.size + 1]? = some (.cells (wideA mb (dg vb)) 40 (0, 0)) ∧ wr.heap[w.heap.size + 2]? = some (.cells (wideA false (fun _ => 0)) 40 (0, 0)) ∧ Below w.heap.size w wr) (fun _ i _ => 9 - (intOf i).toNat)
  case atStart => exact ⟨0, by omega, rfl, by rw [borrowP_zero]; rfl, by rw [blk_alloc (blk_alloc (last_block0 w _ _ rfl) _) _]; exact congrArg (fun a => some (Obj.cells a _ (0, 0))) (wideA_congr _ (fun i _ => by simp)), blk_alloc (last_block0 _ _ _ (by simp)) _, last_block0 _ _ _ (by simp), (((Below.refl _ _).alloc (Nat.le_refl _) _).alloc (by simp) _).alloc (by simp; omega) _⟩
  case round =>
    obtain ⟨k, hk, rfl, rfl, hb0, hb1, hb2, hbel⟩ := hrel
    clear hz
    by_cases hlt : k < 9
    · have hsz : w.heap.size + 2 < wr.heap.size := (Array.getElem?_eq_some_iff.1 hb2).1
      have hc0 : wr.cell? ⟨w.heap.size, 1 + k, none⟩ = some (.int .u64 (dg va k : Nat)) := by
        rw [cell_of_block hb0, wideA_get _ _ k (by omega), if_neg (Nat.lt_irrefl k)]
      have hc1 : wr.cell? ⟨w.heap.size + 1, 1 + k, none⟩ = some (.int .u64 (dg vb k : Nat)) := by
        rw [cell_of_block hb1, wideA_get _ _ k (by omega)]
      have hf : wr.frozen? ⟨w.heap.size, 1 + k, none⟩ = false := frozen_blk hb0
      have hx := dg_lt va k
      have hy := dg_lt vb k
      have hc := borrowP_le va vb k
      have hq := hide (sub_dg va vb k hle)
      have hr := hide (sub_borrow va vb k)
      have hb0h := hide hb0
      have hb1h := hide hb1
      have hb2h := hide hb2
      clear hb0 hb1 hb2
      generalize dg va k = x at *
      generalize dg vb k = y at *
      generalize borrowP va vb k = c at *
      have hr2 : Hid ((1 : Int) - ((x + 65536 - y - c : Nat) : Int) / 65536 = ((1 - (x + 65536 - y - c) / 65536 : Nat) : Int)) := hide (by omega)
      go_wp2_with fail
      go_quiet (fail)
      go_wp2_with fail
      rw [show ((x : Int) + 65536 - y - c) = ((x + 65536 - y - c : Nat) : Int) by omega, hr2.out, int_mod, hq.out, hr.out]
      go_roundw
      case rel =>
        refine ⟨k + 1, by omega, by go_num, rfl, ?_, blk_set_other (blk_drewN hb1h.out _) (by omega) _ _, blk_set_other (blk_drewN hb2h.out _) (by omega) _ _, (below_drewN hbel _).setCell (Nat.le_refl _) _⟩
        rw [blk_set (blk_drewN hb0h.out _), wideA_set _ _ _ _ (by omega)]
        exact congrArg (fun a => some (Obj.cells a _ (0, 0))) (wideA_congr _ (fun i _ => upd_next (dg va) (dg (va - vb)) k i))
      case measure => simp [intOf]; omega
    · obtain rfl : k = 9 := by omega
      have hv := hide (wideA_full ma (dg (va - vb)) (dg va))
      rw [hv.out] at hb0
      go_wp2_with (first | (refine wpList_load_row rfl _ _ rfl _ rfl _ _ _ _ hb0 Try.underlying40 rfl (wide_info _ _) ?_) | (refine wpList_store_row rfl _ _ _ rfl _ _ rfl rfl _ _ hb2 (wide_info _ _) (wideA_sz _ _ _ _) (wideA_one _ _) ?_))
      refine bodyPost_ret (v := .agg (wideA ma (dg (va - vb)))) (results_cell_row rfl _ _ (w.heap.size + 2) 40 (wideA ma (dg (va - vb))) (0, 0) _ rfl ?_ Try.underlying40 rfl (wide_info _ _)) rfl ?_
      · exact setRow_heap _ _ _ _ _ _ hb2
      · exact ⟨rfl, below_setRow hbel (by omega) _⟩

def LessPost (W : World) (x : Bool) (e : Ending) (W' : World) : Prop := e = .returned (.bool x) ∧ Below W.heap.size W W'
set_option maxHeartbeats 400000 in
theorem r_less (ma mb : Bool) (va vb : Nat) (w : World) (ha : va < 65536 ^ 9) (hb : vb < 65536 ^ 9) :
    Calls Try.prog 51 #[.agg (wideA ma (dg va)), .agg (wideA mb (dg vb))] w (LessPost w (decide (va < vb))) := by
  have ha9 := hide (Nat.div_eq_of_lt ha)
  have hb9 := hide (Nat.div_eq_of_lt hb)
  clear ha hb
  go_enter Try.func51, Try.ntmps51
  go_wp2_with fail
  go_loopw [5] (fun i wr => ∃ k : Nat, k ≤ 9 ∧ i = .int .i64 ((k : Int) - 1) ∧ Hid (va / 65536 ^ k = vb / 65536 ^ k) ∧ wr.heap[w.heap.size]? = some (.cells (wideA ma (dg va)) 40 (0, 0)) ∧ wr.heap[w.heap.size + 1]? = some (.cells (wideA mb (dg vb)) 40 (0, 0)) ∧ Below w.heap.size w wr) (fun i _ => (intOf i + 1).toNat)
  case atStart => exact ⟨9, by omega, rfl, hide (by rw [ha9.out, hb9.out]), blk_alloc (last_block0 w _ _ rfl) _, last_block0 _ _ _ (by simp), ((Below.refl _ _).alloc (Nat.le_refl _) _).alloc (by simp) _⟩
  case round =>
    obtain ⟨k, hk, rfl, hq, hb0, hb1, hbel⟩ := hrel
    by_cases hlt : 0 < k
    · obtain ⟨j, rfl⟩ : ∃ j, k = j + 1 := ⟨k - 1, by omega⟩
      have ej : Hid (((j + 1 : Nat) : Int) - 1 = (j : Int)) := hide (by omega)
      rw [ej.out]
      have hc0 : wr.cell? ⟨w.heap.size, 1 + j, none⟩ = some (.int .u64 (dg va j : Nat)) := by
        rw [cell_of_block hb0, wideA_get _ _ j (by omega)]
      have hc1 : wr.cell? ⟨w.heap.size + 1, 1 + j, none⟩ = some (.int .u64 (dg vb j : Nat)) := by
        rw [cell_of_block hb1, wideA_get _ _ j (by omega)]
      have hn := Lib.hid (less_at va vb j hq.out)
      have he := Lib.hid (eq_at va vb j hq.out)
      have hb0h := hide hb0
      have hb1h := hide hb1
      clear hb0 hb1
      by_cases hne : dg va j = dg vb j
      · have hd := hide (he.out hne)
        rw [hne] at hc0
        clear he hn
        go_wp2_with fail
        go_quiet (fail)
        go_wp2_with fail
        go_roundw
        case rel => exact ⟨j, by omega, rfl, hd, blk_drewN hb0h.out _, blk_drewN hb1h.out _, below_drewN hbel _⟩
        case measure => simp [intOf]
      · have hd := hide (hn.out hne)
        have hb' : ((dg va j : Int) == dg vb j) = false := by simp; omega
        have hb2 : ((dg va j : Int) != dg vb j) = true := by simp; omega
        clear he hn
        go_wp2_with fail
        go_quiet (fail)
        go_wp2_with fail
        go_quiet (fail)
        go_wp2_with fail
        go_ret
        refine ⟨ret_bool ?_, below_drewN (below_drewN hbel _) _⟩
        have := hd.out
        by_cases hx : va < vb
        · simp [hx]; omega
        · simp [hx]; omega
    · obtain rfl : k = 0 := by omega
      have hd : Hid (decide (va < vb) = false) := by
        have := hq.out
        simp only [Nat.pow_zero, Nat.div_one] at this
        exact hide (by simp; omega)
      go_wp2_with fail
      go_ret
      exact ⟨ret_bool hd.out.symm, hbel⟩
end Go.Proofs.Ytangfbahljdbhaa

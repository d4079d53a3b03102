/- The walk of the law StatsPlays: it answers true for every list of marks and trips, every count and every limit. -/
import Derived.Test.YtnbpgedeoflmgaaStats7
import Derived.Test.YtnbpgedeoflmgaaRead
namespace Go.Proofs.Ytnbpgedeoflmgaa
open Go.RowKit
theorem nd_max (loss count limit q : Int) (h : q = if count < 0 then 0 else count) : ndZ loss count limit = ndZ loss q limit := by
  have h1 : max count 0 = max q 0 := by subst h; split <;> omega
  unfold ndZ
  rw [h1]
attribute [local irreducible] twZ tick8 clampZ floorZ satZ cdZ stTrip waZ ndZ foldT scZ
attribute [local irreducible] blk wLoad wLoadRes loadAns wStore wStoreRes storeAns Plain stA
attribute [local go_sem ↓] ld_s0 ld_r0 sto_s0 sto_r0
attribute [local go_sem] ld_s ld_r sto_s sto_r loadAns_some storeAns_some st_size5 st_plain blk_alloc_if blk_setRow_if blk_drew_at blk_drewN_at rowPut_some
set_option maxRecDepth 100000 in
set_option maxHeartbeats 4000000 in
theorem statsPlays_walk (a0 : Option Addr) (len0 cap0 : Nat) (a1 : Int) (a2 : Int) (w : World) (w0 : IsRec [none, none, some .i64] w a0 len0 cap0) (w1 : (Lit.int .i64 a1).wf = true) (w2 : (Lit.int .i64 a2).wf = true) :
    Calls Try.prog 5 #[.slice a0 len0 cap0, .int .i64 a1, .int .i64 a2] w fun e w' => e = .returned (.bool true) ∧ Below w.heap.size w w' := by
  obtain ⟨g, hg⟩ := ops_open w0
  have hn : len0 ≤ 9223372036854775807 := by obtain ⟨_, _, _, h1, h2, _⟩ := w0; unfold maxLen at h2; omega
  have b2 := (i64_bd w2).2
  have hgh := hide hg
  have hz := zeroSt
  have hz2 := zeroRst
  clear w0 w1 w2 hg
  go_enter Try.func5, Try.ntmps5
  go_wp2_with fail
  refine (st_awake w).mono ?_
  rintro e w1 ⟨rfl, hb1⟩
  go_wp2_with fail
  refine (st_played a0 len0 cap0 g w1 (hgh.out.below hb1) hn).mono ?_
  rintro e w2 ⟨k, hk, hk2, rfl, hb2⟩
  have hb := hb1.trans (hb2.mono hb1.size)
  have hs2 : w.heap.size ≤ w2.heap.size := hb.size
  have ok : StOk (foldT g k) 300 := StOk.mono (foldT_ok g k) (by omega)
  clear hb1 hb2 hgh
  generalize foldT g k = s at *
  go_upto_region 4 with (fail)
  have hS : blk (((((w2.alloc (.cells (stA z0T) 25)).alloc (.cells (stA z0T) 26)).setRow w2.heap.size (stA s)).setRow (w2.heap.size + 1) (stA s))) w2.heap.size = some (.cells (stA s) 25 (0, 0)) :=
    blk_of ((setRow_other _ _ _ _ (by omega)).trans (setRow_heap _ _ _ _ _ _ (blk_alloc (last_block0 w2 _ _ rfl) _)))
  have hR : blk (((((w2.alloc (.cells (stA z0T) 25)).alloc (.cells (stA z0T) 26)).setRow w2.heap.size (stA s)).setRow (w2.heap.size + 1) (stA s))) (w2.heap.size + 1) = some (.cells (stA s) 26 (0, 0)) :=
    blk_of (setRow_heap _ _ _ _ _ _ ((setRow_other _ _ _ _ (by omega)).trans (last_block0 _ _ _ (by show _ = (w2.heap.push _).size; rw [Array.size_push]))))
  have hB : Below w.heap.size w ((((w2.alloc (.cells (stA z0T) 25)).alloc (.cells (stA z0T) 26)).setRow w2.heap.size (stA s)).setRow (w2.heap.size + 1) (stA s)) := by
    refine below_setRow (below_setRow ((hb.alloc hs2 _).alloc ?_ _) ?_ _) ?_ _
    · show _ ≤ (w2.heap.push _).size; rw [Array.size_push]; omega
    · exact hs2
    · omega
  generalize World.setRow (World.setRow _ _ _) _ _ = W at hS hR hB ⊢
  have hl := blk_lt hR
  have hSh := Lib.hid (fun (w' : World) (hb : Below W.heap.size W w') => (⟨(blk_below hb (by omega)).trans hS, (blk_below hb hl).trans hR, hb⟩ : blk w' w2.heap.size = some (.cells (stA s) 25 (0, 0)) ∧ blk w' (w2.heap.size + 1) = some (.cells (stA s) 26 (0, 0)) ∧ Below W.heap.size W w'))
  have hclh := Lib.hid (fun (x x' : World) (h : blk x w2.heap.size = some (.cells (stA s) 25 (0, 0)) ∧ blk x (w2.heap.size + 1) = some (.cells (stA s) 26 (0, 0)) ∧ Below W.heap.size W x) (hb : Below x.heap.size x x') => hSh.out x' (below_step h.2.2 h.2.2.size hb))
  have hBh := Lib.hid (fun w' (h : Below W.heap.size W w') => hB.trans (h.mono hB.size))
  have k1 := Lib.hid (fun X => s_wait s 300 X ok)
  have k2 := Lib.hid (fun X => r_wait s 300 X ok)
  have k3 := Lib.hid (fun X => s_score s 300 X ok)
  have k4 := Lib.hid (fun X => r_score s 300 X ok)
  clear hS hR hb hB
  refine wp_region_quiet (C := fun w' => blk w' w2.heap.size = some (.cells (stA s) 25 (0, 0)) ∧ blk w' (w2.heap.size + 1) = some (.cells (stA s) 26 (0, 0)) ∧ Below W.heap.size W w') (by kernel_rfl) (by kernel_rfl) (hSh.out _ (below_drewN (Below.refl _ _) 1)) ?_
  repeat (first
    | (refine q_run (v := ?_) ?_ ?_ ?_
       rotate_left
       · rfl
       · (intro x hSx; (try dsimp only at hSx); go_simp <;> with_reducible rfl)
       simp only [Act.put, List.setIfInBounds_toArray, List.set_cons_zero, List.set_cons_succ])
    | (refine q_skip ?_ ?_
       · rfl
       simp only [Act.put, List.setIfInBounds_toArray, List.set_cons_zero, List.set_cons_succ])
    | (refine q_call (fun x _ => k1.out x) hclh.out ?_ ?_ ?_
       · rfl
       · (intro x hSx; (try dsimp only at hSx); go_simp <;> with_reducible rfl)
       simp only [Act.put, List.setIfInBounds_toArray, List.set_cons_zero, List.set_cons_succ])
    | (refine q_call (fun x _ => k2.out x) hclh.out ?_ ?_ ?_
       · rfl
       · (intro x hSx; (try dsimp only at hSx); go_simp <;> with_reducible rfl)
       simp only [Act.put, List.setIfInBounds_toArray, List.set_cons_zero, List.set_cons_succ])
    | (refine q_call (fun x _ => k3.out x) hclh.out ?_ ?_ ?_
       · rfl
       · (intro x hSx; (try dsimp only at hSx); go_simp <;> with_reducible rfl)
       simp only [Act.put, List.setIfInBounds_toArray, List.set_cons_zero, List.set_cons_succ])
    | (refine q_call (fun x _ => k4.out x) hclh.out ?_ ?_ ?_
       · rfl
       · (intro x hSx; (try dsimp only at hSx); go_simp <;> with_reducible rfl)
       simp only [Act.put, List.setIfInBounds_toArray, List.set_cons_zero, List.set_cons_succ]))
  refine wpQuiet_nil ?_
  intro x hSx
  clear k1 k2 k3 k4
  by_cases hc1 : 1000 < a1
  · go_wp2_with fail
    go_ret
    exact ⟨rfl, hBh.out _ hSx.2.2⟩
  by_cases hc2 : 1000 < a2
  · have hd : decide (1000 < a2) = true := decide_eq_true hc2
    go_wp2_with fail
    go_ret
    exact ⟨rfl, hBh.out _ hSx.2.2⟩
  have hd1 : decide (1000 < a1) = false := decide_eq_false hc1
  have hd2 : decide (1000 < a2) = false := decide_eq_false hc2
  have hSxh := Lib.hid hSx
  clear hSx
  by_cases hneg : a1 < 0
  · have k5 := Lib.hid (fun X => s_need s 300 a1 a2 X ok (by omega) b2)
    have k6 := Lib.hid (fun X => r_need s 300 0 a2 X ok (by omega) (by omega) (by omega))
    rw [nd_max s.loss a1 a2 0 (by rw [if_pos hneg])] at k5
    go_upto_region 8 with (fail)
    refine wp_region_quiet (C := fun w' => blk w' w2.heap.size = some (.cells (stA s) 25 (0, 0)) ∧ blk w' (w2.heap.size + 1) = some (.cells (stA s) 26 (0, 0)) ∧ Below W.heap.size W w') (by kernel_rfl) (by kernel_rfl) (hSh.out _ (below_drewN hSxh.out.2.2 1)) ?_
    clear hSxh
    repeat (first
      | (refine q_run (v := ?_) ?_ ?_ ?_
         rotate_left
         · rfl
         · (intro x hSx; (try dsimp only at hSx); go_simp <;> with_reducible rfl)
         simp only [Act.put, List.setIfInBounds_toArray, List.set_cons_zero, List.set_cons_succ])
      | (refine q_skip ?_ ?_
         · rfl
         simp only [Act.put, List.setIfInBounds_toArray, List.set_cons_zero, List.set_cons_succ])
      | (refine q_call (fun x _ => k5.out x) hclh.out ?_ ?_ ?_
         · rfl
         · (intro x hSx; (try dsimp only at hSx); go_simp <;> with_reducible rfl)
         simp only [Act.put, List.setIfInBounds_toArray, List.set_cons_zero, List.set_cons_succ])
      | (refine q_call (fun x _ => k6.out x) hclh.out ?_ ?_ ?_
         · rfl
         · (intro x hSx; (try dsimp only at hSx); go_simp <;> with_reducible rfl)
         simp only [Act.put, List.setIfInBounds_toArray, List.set_cons_zero, List.set_cons_succ]))
    refine wpQuiet_nil ?_
    intro x hSx
    go_wp2_with fail
    go_ret
    exact ⟨rfl, hBh.out _ hSx.2.2⟩
  · have k5 := Lib.hid (fun X => s_need s 300 a1 a2 X ok (by omega) b2)
    have k6 := Lib.hid (fun X => r_need s 300 a1 a2 X ok (by omega) (by omega) (by omega))
    go_upto_region 8 with (fail)
    refine wp_region_quiet (C := fun w' => blk w' w2.heap.size = some (.cells (stA s) 25 (0, 0)) ∧ blk w' (w2.heap.size + 1) = some (.cells (stA s) 26 (0, 0)) ∧ Below W.heap.size W w') (by kernel_rfl) (by kernel_rfl) (hSh.out _ (below_drewN hSxh.out.2.2 1)) ?_
    clear hSxh
    repeat (first
      | (refine q_run (v := ?_) ?_ ?_ ?_
         rotate_left
         · rfl
         · (intro x hSx; (try dsimp only at hSx); go_simp <;> with_reducible rfl)
         simp only [Act.put, List.setIfInBounds_toArray, List.set_cons_zero, List.set_cons_succ])
      | (refine q_skip ?_ ?_
         · rfl
         simp only [Act.put, List.setIfInBounds_toArray, List.set_cons_zero, List.set_cons_succ])
      | (refine q_call (fun x _ => k5.out x) hclh.out ?_ ?_ ?_
         · rfl
         · (intro x hSx; (try dsimp only at hSx); go_simp <;> with_reducible rfl)
         simp only [Act.put, List.setIfInBounds_toArray, List.set_cons_zero, List.set_cons_succ])
      | (refine q_call (fun x _ => k6.out x) hclh.out ?_ ?_ ?_
         · rfl
         · (intro x hSx; (try dsimp only at hSx); go_simp <;> with_reducible rfl)
         simp only [Act.put, List.setIfInBounds_toArray, List.set_cons_zero, List.set_cons_succ]))
    refine wpQuiet_nil ?_
    intro x hSx
    go_wp2_with fail
    go_ret
    exact ⟨rfl, hBh.out _ hSx.2.2⟩
end Go.Proofs.Ytnbpgedeoflmgaa

/- The contract of backstayref01's Times. Conditions: the factors are below 65536 to the 4th. -/
import Derived.Test.YtangfbahljdbhaaWide3
namespace Go.Proofs.Ytangfbahljdbhaa
open Go.RowKit
/-- the digits of a row: those of x times b, k places up, the first j of them -/
def rowD (x b k j : Nat) (i : Nat) : Nat := if k ≤ i ∧ i < k + j then dg (x * b) (i - k) else 0
theorem rowD_zero (x b k : Nat) (i : Nat) : rowD x b k 0 i = 0 := by unfold rowD; rw [if_neg (by omega)]
theorem rowD_next (x b k j : Nat) (i : Nat) : (if i = k + j then dg (x * b) j else rowD x b k j i) = rowD x b k (j + 1) i := by
  unfold rowD
  by_cases h : i = k + j
  · subst h; rw [if_pos rfl, if_pos (by omega)]; congr 1; omega
  · rw [if_neg h]
    by_cases h2 : k ≤ i ∧ i < k + j
    · rw [if_pos h2, if_pos (by omega)]
    · rw [if_neg h2, if_neg (by omega)]
theorem rowD_all (x b k : Nat) (hx : x < 65536) (hb : b < 65536 ^ 4) (i : Nat) : rowD x b k 5 i = dg (x * b * 65536 ^ k) i := by
  unfold rowD
  rw [dg_shift]
  by_cases h : i < k
  · rw [if_pos h, if_neg (by omega)]
  · rw [if_neg h]
    by_cases h2 : i < k + 5
    · rw [if_pos (by omega)]
    · rw [if_neg (by omega)]
      have hlt : x * b < 65536 ^ 5 := by
        calc x * b ≤ 65535 * b := Nat.mul_le_mul_right _ (by omega)
          _ < 65536 ^ 5 := by omega
      exact (dg_over _ _ 5 hlt (by omega)).symm
theorem carry_last (x b : Nat) (hx : x < 65536) (hb : b < 65536 ^ 4) : carryM x b 4 = dg (x * b) 4 := by
  unfold carryM dg
  rw [Nat.mod_eq_of_lt hb]
  rw [Nat.mod_eq_of_lt]
  apply Nat.div_lt_of_lt_mul
  calc x * b ≤ 65535 * b := Nat.mul_le_mul_right _ (by omega)
    _ < 65536 ^ 4 * 65536 := by omega
theorem nat_mul_int (x y c : Nat) : (x : Int) * y + c = ((x * y + c : Nat) : Int) := by simp
theorem mul_bd (x y : Nat) (hx : x < 65536) (hy : y < 65536) : x * y ≤ 4294836225 := Nat.mul_le_mul (show x ≤ 65535 by omega) (show y ≤ 65535 by omega)
attribute [local irreducible] wideA dg rowD carryM
set_option maxHeartbeats 2000000 in
theorem r_times (ma mb : Bool) (va vb : Nat) (w : World) (ha : va < 65536 ^ 4) (hb : vb < 65536 ^ 4) :
    Calls Try.prog 32 #[.agg (wideA ma (dg va)), .agg (wideA mb (dg vb))] w (WidePost w (ma != mb) (va * vb)) := by
  have hah := hide ha
  have hbh := hide hb
  clear ha hb
  have hz := zeroWide
  go_enter Try.func32, Try.ntmps32
  go_wp2_with fail
  go_loopw [6] (fun i wr => ∃ k : Nat, k ≤ 4 ∧ i = .int .i64 k ∧ wr.heap[w.heap.size]? = some (.cells (wideA ma (dg va)) 40 (0, 0)) ∧ wr.heap[w.heap.size + 1]? = some (.cells (wideA mb (dg vb)) 40 (0, 0)) ∧ wr.heap[w.heap.size + 2]? = some (.cells (wideA false (fun _ => 0)) 40 (0, 0)) ∧ wr.heap[w.heap.size + 3]? = some (.cells (wideA false (dg (va % 65536 ^ k * vb))) 40 (0, 0)) ∧ Below w.heap.size w wr) (fun i _ => 4 - (intOf i).toNat)
  case atStart => exact ⟨0, by omega, rfl, blk_alloc (blk_alloc (blk_alloc (last_block0 w _ _ rfl) _) _) _, blk_alloc (blk_alloc (last_block0 _ _ _ (by simp)) _) _, blk_alloc (last_block0 _ _ _ (by simp)) _, by rw [last_block0 _ _ _ (by simp)]; exact congrArg (fun a => some (Obj.cells a _ (0, 0))) (wideA_congr _ (fun i _ => by rw [Nat.pow_zero, Nat.mod_one, Nat.zero_mul, dg_zero])), ((((Below.refl _ _).alloc (Nat.le_refl _) _).alloc (by simp) _).alloc (by simp; omega) _).alloc (by simp; omega) _⟩
  case round =>
    obtain ⟨k, hk, rfl, hb0, hb1, hb2, hb3, hbel⟩ := hrel
    obtain ⟨wo, rfl⟩ : ∃ wo : World, wo = wr := ⟨_, rfl⟩
    have hsz : w.heap.size + 3 < wo.heap.size := (Array.getElem?_eq_some_iff.1 hb3).1
    have hb0h := hide hb0
    have hb1h := hide hb1
    have hb2h := hide hb2
    have hb3h := hide hb3
    by_cases hlt : k < 4
    · clear hb0 hb1 hb2 hb3
      obtain ⟨x, hxe⟩ : ∃ x, x = dg va k := ⟨_, rfl⟩
      have hx : x < 65536 := by rw [hxe]; exact dg_lt _ _
      have hxh := hide hxe
      clear hxe
      go_wp2_with fail
      go_loopw [8, 9] (fun c i wr => ∃ j : Nat, j ≤ 4 ∧ i = .int .i64 j ∧ c = .int .u64 (carryM x vb j : Nat) ∧ wr.heap[w.heap.size]? = some (.cells (wideA ma (dg va)) 40 (0, 0)) ∧ wr.heap[w.heap.size + 1]? = some (.cells (wideA mb (dg vb)) 40 (0, 0)) ∧ wr.heap[w.heap.size + 2]? = some (.cells (wideA false (fun _ => 0)) 40 (0, 0)) ∧ wr.heap[w.heap.size + 3]? = some (.cells (wideA false (dg (va % 65536 ^ k * vb))) 40 (0, 0)) ∧ wr.heap[wo.heap.size]? = some (.cells (wideA false (rowD x vb k j)) 40 (0, 0)) ∧ Below w.heap.size w wr) (fun _ i _ => 4 - (intOf i).toNat)
      case atStart => exact ⟨0, by omega, rfl, by rw [carryM_zero]; rfl, blk_alloc hb0h.out _, blk_alloc hb1h.out _, blk_alloc hb2h.out _, blk_alloc hb3h.out _, by rw [last_block0 _ _ _ rfl]; exact congrArg (fun a => some (Obj.cells a _ (0, 0))) (wideA_congr _ (fun i _ => (rowD_zero _ _ _ _).symm)), hbel.alloc hbel.size _⟩
      case round =>
        obtain ⟨j, hj, rfl, rfl, hd0, hd1, hd2, hd3, hd4, hdel⟩ := hrel
        have hsz4 : wo.heap.size < wr.heap.size := (Array.getElem?_eq_some_iff.1 hd4).1
        by_cases hjl : j < 4
        · have hc0 : wr.cell? ⟨w.heap.size, 1 + k, none⟩ = some (.int .u64 x) := by
            rw [cell_of_block hd0, wideA_get _ _ k (by omega), hxh.out]
          have hc1 : wr.cell? ⟨w.heap.size + 1, 1 + j, none⟩ = some (.int .u64 (dg vb j : Nat)) := by
            rw [cell_of_block hd1, wideA_get _ _ j (by omega)]
          have hc4 : wr.cell? ⟨wo.heap.size, 1 + (k + j), none⟩ = some (.int .u64 (rowD x vb k j (k + j) : Nat)) := by
            rw [cell_of_block hd4, wideA_get _ _ _ (by omega)]
          have hf : wr.frozen? ⟨wo.heap.size, 1 + (k + j), none⟩ = false := frozen_blk hd4
          have hd0h := hide hd0
          have hd1h := hide hd1
          have hd2h := hide hd2
          have hd3h := hide hd3
          have hd4h := hide hd4
          clear hd0 hd1 hd2 hd3 hd4
          have hy := dg_lt vb j
          have hcm := carryM_lt x vb j hx
          have hq := hide (mul_dg x vb j)
          have hr := hide (mul_carry x vb j)
          generalize dg vb j = y at *
          generalize carryM x vb j = c at *
          have hm := mul_bd x y hx hy
          obtain ⟨xy, hxy⟩ : ∃ xy : Nat, xy = x * y := ⟨_, rfl⟩
          have hxyi : Hid ((x : Int) * y = xy) := hide (by rw [hxy]; simp)
          have hxyb : (x : Int) * y ≤ 4294836225 := by rw [hxyi.out]; omega
          have hxyz : 0 ≤ (x : Int) * y := by rw [hxyi.out]; omega
          have hxyh := hide hxy
          clear hxy hm
          go_wp2_with fail
          go_quiet (fail)
          go_wp2_with fail
          rw [nat_mul_int, int_mod, int_div, hq.out, hr.out]
          go_roundw
          case rel =>
            refine ⟨j + 1, by omega, by go_num, rfl, blk_set_other (blk_drewN hd0h.out _) (by omega) _ _, blk_set_other (blk_drewN hd1h.out _) (by omega) _ _, blk_set_other (blk_drewN hd2h.out _) (by omega) _ _, blk_set_other (blk_drewN hd3h.out _) (by omega) _ _, ?_, (below_drewN hdel _).setCell (by simp; omega) _⟩
            rw [blk_set (blk_drewN hd4h.out _), wideA_set _ _ _ _ (by omega)]
            exact congrArg (fun a => some (Obj.cells a _ (0, 0))) (wideA_congr _ (fun i _ => rowD_next x vb k j i))
          case measure => simp [intOf]; omega
        · obtain rfl : j = 4 := by omega
          have hc4 : wr.cell? ⟨wo.heap.size, 1 + (k + 4), none⟩ = some (.int .u64 (rowD x vb k 4 (k + 4) : Nat)) := by
            rw [cell_of_block hd4, wideA_get _ _ _ (by omega)]
          have hf : wr.frozen? ⟨wo.heap.size, 1 + (k + 4), none⟩ = false := frozen_blk hd4
          have hcm := carryM_lt x vb 4 hx
          have hcl := hide (carry_last x vb hx hbh.out)
          have hd0h := hide hd0
          have hd1h := hide hd1
          have hd2h := hide hd2
          have hd3h := hide hd3
          have hd4h := hide hd4
          clear hd0 hd1 hd2 hd3 hd4
          go_upto_region 14 with (fail)
          generalize hW : wr.setCell _ _ = V
          have he0 : V.heap[w.heap.size]? = some (.cells (wideA ma (dg va)) 40 (0, 0)) := by rw [← hW]; exact blk_set_other hd0h.out (by omega) _ _
          have he1 : V.heap[w.heap.size + 1]? = some (.cells (wideA mb (dg vb)) 40 (0, 0)) := by rw [← hW]; exact blk_set_other hd1h.out (by omega) _ _
          have he2 : V.heap[w.heap.size + 2]? = some (.cells (wideA false (fun _ => 0)) 40 (0, 0)) := by rw [← hW]; exact blk_set_other hd2h.out (by omega) _ _
          have he3 : V.heap[w.heap.size + 3]? = some (.cells (wideA false (dg (va % 65536 ^ k * vb))) 40 (0, 0)) := by rw [← hW]; exact blk_set_other hd3h.out (by omega) _ _
          have he4 : V.heap[wo.heap.size]? = some (.cells (wideA false (dg (x * vb * 65536 ^ k))) 40 (0, 0)) := by
            rw [← hW, hcl.out, blk_set hd4h.out, wideA_set _ _ _ _ (by omega)]
            exact congrArg (fun a => some (Obj.cells a _ (0, 0))) (wideA_congr _ (fun i _ => (rowD_next x vb k 4 i).trans (rowD_all x vb k hx hbh.out i)))
          have hvel : Below w.heap.size w V := by rw [← hW]; exact hdel.setCell (by simp; omega) _
          have hvsz : w.heap.size + 3 < V.heap.size := (Array.getElem?_eq_some_iff.1 he3).1
          clear hW hc4 hf hd0h hd1h hd2h hd3h hd4h hdel
          go_wp2_with (first | (refine wpList_load_row rfl _ _ rfl _ rfl _ _ _ _ he3 Try.underlying40 rfl (wide_info _ _) ?_) | (refine wpList_load_row rfl _ _ rfl _ rfl _ _ _ _ he4 Try.underlying40 rfl (wide_info _ _) ?_))
          refine (r_plus false false _ _ V).mono ?_
          rintro e w1 ⟨rfl, hB⟩
          have hk0 : w1.heap[w.heap.size]? = some (.cells (wideA ma (dg va)) 40 (0, 0)) := (hB.block _ (by omega)).trans he0
          have hk1 : w1.heap[w.heap.size + 1]? = some (.cells (wideA mb (dg vb)) 40 (0, 0)) := (hB.block _ (by omega)).trans he1
          have hk2 : w1.heap[w.heap.size + 2]? = some (.cells (wideA false (fun _ => 0)) 40 (0, 0)) := (hB.block _ (by omega)).trans he2
          have hk3 : w1.heap[w.heap.size + 3]? = some (.cells (wideA false (dg (va % 65536 ^ k * vb))) 40 (0, 0)) := (hB.block _ (by omega)).trans he3
          have hkel : Below w.heap.size w w1 := hvel.trans (hB.mono (by omega))
          clear he0 he1 he2 he3 he4 hvel hB
          have hms := hide (mod_succ_mul va vb k)
          rw [← hxh.out] at hms
          go_wp2_with (refine wpList_store_row rfl _ _ _ rfl _ _ rfl rfl _ _ hk3 (wide_info _ _) (wideA_sz _ _ _ _) (wideA_one _ _) ?_)
          go_roundw
          case rel =>
            refine ⟨k + 1, by omega, by go_num, by rw [setRow_other _ _ _ _ (by omega)]; exact hk0, by rw [setRow_other _ _ _ _ (by omega)]; exact hk1, by rw [setRow_other _ _ _ _ (by omega)]; exact hk2, ?_, below_setRow hkel (by omega) _⟩
            rw [← hms.out]
            exact setRow_heap _ _ _ _ _ _ hk3
          case measure => simp [intOf]; omega
    · obtain rfl : k = 4 := by omega
      have hfin : va % 65536 ^ 4 * vb = va * vb := by rw [Nat.mod_eq_of_lt hah.out]
      rw [hfin] at hb3
      have c0 : wo.cell? ⟨w.heap.size, 0, none⟩ = some (.bool ma) := by rw [cell_of_block hb0]; exact wideA_get0 _ _
      have c1 : wo.cell? ⟨w.heap.size + 1, 0, none⟩ = some (.bool mb) := by rw [cell_of_block hb1]; exact wideA_get0 _ _
      have c3 : wo.cell? ⟨w.heap.size + 3, 0, none⟩ = some (.bool false) := by rw [cell_of_block hb3]; exact wideA_get0 _ _
      have f3 : wo.frozen? ⟨w.heap.size + 3, 0, none⟩ = false := frozen_blk hb3
      clear hb0h hb1h hb2h hb3h hfin hb0 hb1
      have hb2h := hide hb2
      have hb3h := hide hb3
      clear hb2 hb3
      go_upto_region 16 with (fail)
      generalize hW : World.setCell _ _ _ = V
      have he2 : V.heap[w.heap.size + 2]? = some (.cells (wideA false (fun _ => 0)) 40 (0, 0)) := by rw [← hW]; exact blk_set_other hb2h.out (by omega) _ _
      have he3 : V.heap[w.heap.size + 3]? = some (.cells (wideA (ma != mb) (dg (va * vb))) 40 (0, 0)) := by
        rw [← hW, blk_set hb3h.out, wideA_set0, show (!ma == mb) = (ma != mb) from by cases ma <;> cases mb <;> rfl]
      have hvel : Below w.heap.size w V := by rw [← hW]; exact hbel.setCell (by simp; omega) _
      clear hW c0 c1 c3 f3
      go_wp2_with (first | (refine wpList_load_row rfl _ _ rfl _ rfl _ _ _ _ he3 Try.underlying40 rfl (wide_info _ _) ?_) | (refine wpList_store_row rfl _ _ _ rfl _ _ rfl rfl _ _ he2 (wide_info _ _) (wideA_sz _ _ _ _) (wideA_one _ _) ?_))
      refine bodyPost_ret (v := .agg (wideA (ma != mb) (dg (va * vb)))) (results_cell_row rfl _ _ (w.heap.size + 2) 40 (wideA (ma != mb) (dg (va * vb))) (0, 0) _ rfl ?_ Try.underlying40 rfl (wide_info _ _)) rfl ?_
      · exact setRow_heap _ _ _ _ _ _ he2
      · exact ⟨rfl, below_setRow hvel (by omega) _⟩
end Go.Proofs.Ytangfbahljdbhaa

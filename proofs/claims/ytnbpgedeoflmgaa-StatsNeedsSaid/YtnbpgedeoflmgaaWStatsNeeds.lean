/- The walk of the law StatsNeeds: it answers true for every list of marks and trips and every count. -/
import Derived.Test.YtnbpgedeoflmgaaStats7
namespace Go.Proofs.Ytnbpgedeoflmgaa
open Go.RowKit
theorem nd_five (D : Int) (h0 : 0 ≤ D) : clampZ D 0 (max 5 0) = if D ≤ 5 then D else 5 := by unfold clampZ; split <;> omega
theorem nd_none (D : Int) (h0 : 0 ≤ D) : clampZ D 0 (max (-1) 0) = 0 := by unfold clampZ; omega
theorem nd_great (D : Int) (h0 : 0 ≤ D) (h1 : D ≤ 100000000) : clampZ D 0 (max 1099511627776 0) = D := by unfold clampZ; omega
attribute [local irreducible] twZ tick8 clampZ floorZ satZ cdZ stTrip waZ foldT scZ
attribute [local irreducible] blk wLoad wLoadRes loadAns wStore wStoreRes storeAns Plain stA
attribute [local go_sem ↓] ld_s0 ld_r0 sto_s0 sto_r0
attribute [local go_sem] ld_s ld_r sto_s sto_r loadAns_some storeAns_some st_size5 st_plain blk_alloc_if blk_setRow_if blk_drew_at blk_drewN_at rowPut_some
set_option maxRecDepth 100000 in
set_option maxHeartbeats 4000000 in
theorem statsNeeds_walk (a0 : Option Addr) (len0 cap0 : Nat) (a1 : Int) (w : World) (w0 : IsRec [none, none, some .i64] w a0 len0 cap0) (w1 : (Lit.int .i64 a1).wf = true) :
    Calls Try.prog 4 #[.slice a0 len0 cap0, .int .i64 a1] w fun e w' => e = .returned (.bool true) ∧ Below w.heap.size w w' := by
  obtain ⟨g, hg⟩ := ops_open w0
  have hn : len0 ≤ 9223372036854775807 := by obtain ⟨_, _, _, h1, h2, _⟩ := w0; unfold maxLen at h2; omega
  have hgh := hide hg
  have hz := zeroSt
  have hz2 := zeroRst
  clear w0 w1 hg
  go_enter Try.func4, Try.ntmps4
  go_wp2_with fail
  refine (st_awake w).mono ?_
  rintro e w1 ⟨rfl, hb1⟩
  go_wp2_with fail
  refine (st_played a0 len0 cap0 g w1 (hgh.out.below hb1) hn).mono ?_
  rintro e w2 ⟨k, hk, hk2, rfl, hb2⟩
  have hb := hb1.trans (hb2.mono hb1.size)
  have hs2 : w.heap.size ≤ w2.heap.size := hb.size
  have ok : StOk (foldT g k) 300 := StOk.mono (foldT_ok g k) (by omega)
  clear hb1 hb2 hgh
  generalize foldT g k = s at *
  go_upto_region 4 with (fail)
  have hS : blk (((((w2.alloc (.cells (stA z0T) 25)).alloc (.cells (stA z0T) 26)).setRow w2.heap.size (stA s)).setRow (w2.heap.size + 1) (stA s))) w2.heap.size = some (.cells (stA s) 25 (0, 0)) :=
    blk_of ((setRow_other _ _ _ _ (by omega)).trans (setRow_heap _ _ _ _ _ _ (blk_alloc (last_block0 w2 _ _ rfl) _)))
  have hB : Below w.heap.size w ((((w2.alloc (.cells (stA z0T) 25)).alloc (.cells (stA z0T) 26)).setRow w2.heap.size (stA s)).setRow (w2.heap.size + 1) (stA s)) := by
    refine below_setRow (below_setRow ((hb.alloc hs2 _).alloc ?_ _) ?_ _) ?_ _
    · show _ ≤ (w2.heap.push _).size; rw [Array.size_push]; omega
    · exact hs2
    · omega
  generalize World.setRow (World.setRow _ _ _) _ _ = W at hS hB ⊢
  have hl := blk_lt hS
  clear hb
  by_cases hc1 : a1 < 0
  · have hd : decide (a1 < 0) = true := decide_eq_true hc1
    go_wp2_with fail
    go_ret
    exact ⟨rfl, hB⟩
  by_cases hc2 : 255 < a1
  · have hd : decide (255 < a1) = true := decide_eq_true hc2
    go_wp2_with fail
    go_ret
    exact ⟨rfl, hB⟩
  have hd1 : decide (a1 < 0) = false := decide_eq_false hc1
  have hd2 : decide (255 < a1) = false := decide_eq_false hc2
  obtain ⟨l0, l1, _⟩ := id ok
  have c0 : W.cell? ⟨w2.heap.size, 0, none⟩ = some (.int .i64 s.loss) := StAt.c0 (blk_heap hS)
  have g1 := cdZ_ge (a1 * 65536) (65536 - s.loss) (by omega)
  have g2 := cdZ_lt (a1 * 65536) (65536 - s.loss) (by omega)
  obtain ⟨g3, g4⟩ := cdZ_bd (a1 * 65536) (65536 - s.loss) (by omega) (by omega)
  have n1 := s_need s 300 a1 1099511627776 W ok (by omega) (by omega)
  have n2 := fun X => s_need s 300 a1 5 X ok (by omega) (by omega)
  have n3 := fun X => s_need s 300 a1 (-1) X ok (by omega) (by omega)
  unfold ndZ at n1 n2 n3
  rw [show max a1 0 = a1 by omega] at n1 n2 n3
  generalize cdZ (a1 * 65536) (65536 - s.loss) = D at *
  rw [nd_great D g3 (by omega)] at n1
  rw [nd_five D g3] at n2
  rw [nd_none D g3] at n3
  rw [Int.sub_mul] at g2
  have p0 : 0 ≤ D * (65536 - s.loss) := Int.mul_nonneg g3 (by omega)
  have n1h := Lib.hid n1
  have n2h := Lib.hid n2
  have n3h := Lib.hid n3
  have hsub := Lib.hid (Int.sub_mul D 1 (65536 - s.loss))
  clear n1 n2 n3
  go_wp2_with fail
  refine n1h.out.mono ?_
  rintro e w3 ⟨rfl, hb3⟩
  have q3 := (blk_below hb3 hl).trans hS
  have hl3 := blk_lt q3
  have hB3 := hB.trans (hb3.mono hB.size)
  clear hb3 hS hB c0 n1h
  by_cases hD0 : D = 0
  · subst hD0
    have g5 : a1 = 0 := by omega
    subst g5
    rw [if_pos (by decide)] at n2h
    clear g1 g2 p0 hsub g3 g4 hc1 hc2 hd1 hd2
    go_wp2_with fail
    refine (n2h.out _).mono ?_
    rintro e w4 ⟨rfl, hb4⟩
    have q4 := (blk_below hb4 hl3).trans q3
    have hB4 := hB3.trans (hb4.mono hB3.size)
    clear hb4 q3 hB3 n2h
    go_wp2_with fail
    refine (n3h.out _).mono ?_
    rintro e w5 ⟨rfl, hb5⟩
    have hB5 := hB4.trans (hb5.mono hB4.size)
    clear hb5 q4 hB4 n3h
    go_wp2_with fail
    go_ret
    exact ⟨rfl, hB5⟩
  · have e1 : (D == 0) = false := by simp; exact hD0
    have e2 : (D - 1) * (65536 - s.loss) < a1 * 65536 := by rw [hsub.out]; omega
    have e3 : -100000000 ≤ (D - 1) * (65536 - s.loss) := by rw [hsub.out]; omega
    have e4 : D * (65536 - s.loss) ≤ 100000000 := by omega
    clear hD0 g2
    by_cases h5 : D ≤ 5
    · rw [if_pos h5] at n2h
      go_wp2_with fail
      refine (n2h.out _).mono ?_
      rintro e w4 ⟨rfl, hb4⟩
      have q4 := (blk_below hb4 hl3).trans q3
      have hB4 := hB3.trans (hb4.mono hB3.size)
      clear hb4 q3 hB3 n2h
      go_wp2_with fail
      refine (n3h.out _).mono ?_
      rintro e w5 ⟨rfl, hb5⟩
      have hB5 := hB4.trans (hb5.mono hB4.size)
      clear hb5 q4 hB4 n3h
      go_wp2_with fail
      go_ret
      exact ⟨rfl, hB5⟩
    · rw [if_neg h5] at n2h
      go_wp2_with fail
      refine (n2h.out _).mono ?_
      rintro e w4 ⟨rfl, hb4⟩
      have q4 := (blk_below hb4 hl3).trans q3
      have hB4 := hB3.trans (hb4.mono hB3.size)
      clear hb4 q3 hB3 n2h
      go_wp2_with fail
      refine (n3h.out _).mono ?_
      rintro e w5 ⟨rfl, hb5⟩
      have hB5 := hB4.trans (hb5.mono hB4.size)
      clear hb5 q4 hB4 n3h
      go_wp2_with fail
      go_ret
      exact ⟨rfl, hB5⟩
end Go.Proofs.Ytnbpgedeoflmgaa

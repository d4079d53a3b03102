/- The walk of the law StatsHold: it answers true for every list of marks and trips. -/
import Derived.Test.YtnbpgedeoflmgaaStats7
namespace Go.Proofs.Ytnbpgedeoflmgaa
open Go.RowKit
theorem tw_up (l : Int) (h0 : 0 ≤ l) (h1 : l ≤ 65535) : l ≤ twZ l 65535 16 := by
  unfold twZ
  have := Int.ediv_nonneg (show 0 ≤ 65535 - l by omega) (show (0 : Int) ≤ 16 by omega)
  omega
theorem tw_down (l : Int) (h0 : 0 ≤ l) (h1 : l ≤ 65535) : twZ l 0 16 < l ∨ (l = 0 ∧ twZ l 0 16 = 0) := by
  unfold twZ
  by_cases h : l = 0
  · right; subst h; exact ⟨rfl, by decide⟩
  · left; omega
attribute [local irreducible] twZ tick8 clampZ floorZ satZ cdZ stTrip waZ ndZ foldT
attribute [local irreducible] blk wLoad wLoadRes loadAns wStore wStoreRes storeAns Plain stA
attribute [local go_sem ↓] ld_s0 ld_r0 sto_s0 sto_r0
attribute [local go_sem] ld_s ld_r sto_s sto_r loadAns_some storeAns_some st_size5 st_plain blk_alloc_if blk_setRow_if blk_drew_at blk_drewN_at rowPut_some
set_option maxRecDepth 100000 in
set_option maxHeartbeats 2000000 in
theorem statsHold_walk (a0 : Option Addr) (len0 cap0 : Nat) (w : World) (w0 : IsRec [none, none, some .i64] w a0 len0 cap0) :
    Calls Try.prog 3 #[.slice a0 len0 cap0] w fun e w' => e = .returned (.bool true) ∧ Below w.heap.size w w' := by
  obtain ⟨g, hg⟩ := ops_open w0
  have hn : len0 ≤ 9223372036854775807 := by obtain ⟨_, _, _, h1, h2, _⟩ := w0; unfold maxLen at h2; omega
  have hgh := hide hg
  have hz := zeroSt
  have hz2 := zeroRst
  clear w0 hg
  go_enter Try.func3, Try.ntmps3
  go_wp2_with fail
  refine (st_awake w).mono ?_
  rintro e w1 ⟨rfl, hb1⟩
  go_wp2_with fail
  refine (st_played a0 len0 cap0 g w1 (hgh.out.below hb1) hn).mono ?_
  rintro e w2 ⟨k, hk, hk2, rfl, hb2⟩
  have hb := hb1.trans (hb2.mono hb1.size)
  have hs2 : w.heap.size ≤ w2.heap.size := hb.size
  have ok := foldT_ok g k
  clear hb1 hb2 hgh
  generalize foldT g k = s at *
  go_upto_region 4 with (fail)
  have hS : StAt (((((w2.alloc (.cells (stA z0T) 25)).alloc (.cells (stA z0T) 26)).setRow w2.heap.size (stA s)).setRow (w2.heap.size + 1) (stA s))) w2.heap.size s :=
    (setRow_other _ _ _ _ (by omega)).trans (setRow_heap _ _ _ _ _ _ (blk_alloc (last_block0 w2 _ _ rfl) _))
  have hB : Below w.heap.size w ((((w2.alloc (.cells (stA z0T) 25)).alloc (.cells (stA z0T) 26)).setRow w2.heap.size (stA s)).setRow (w2.heap.size + 1) (stA s)) := by
    refine below_setRow (below_setRow ((hb.alloc hs2 _).alloc ?_ _) ?_ _) ?_ _
    · show _ ≤ (w2.heap.push _).size; rw [Array.size_push]; omega
    · exact hs2
    · omega
  generalize World.setRow (World.setRow _ _ _) _ _ = W at hS hB ⊢
  have ok' := ok
  obtain ⟨l0, l1, r0, r1, v0, v1, m0, m1, t0, t1⟩ := ok
  have c0 := hS.c0
  have c1 := hS.c1
  have c2 := hS.c2
  have q := blk_of hS
  have hl := hS.lt
  clear hS hb
  go_upto_region 6 with (fail)
  go_cut [6, 7] (fun v6 v7 wx => ∃ pa pb : Nat, v6 = .pointer (some ⟨pa, 0, none⟩) ∧ v7 = .pointer (some ⟨pb, 0, none⟩) ∧ pa ≠ pb ∧ W.heap.size ≤ pa ∧ W.heap.size ≤ pb ∧ StAt wx pa s ∧ StAt wx pb s ∧ StAt wx w2.heap.size s ∧ Below w.heap.size w wx)
  case first =>
    have n1 : ¬ w2.heap.size = W.heap.size := by omega
    have n2 : ¬ w2.heap.size = W.heap.size + 1 := by omega
    have hB2 : Below w.heap.size w (((W.alloc (.cells (stA z0T) 25)).alloc (.cells (stA z0T) 25)).drew) := below_drewN ((hB.alloc hB.size _).alloc (by show _ ≤ (W.heap.push _).size; rw [Array.size_push]; have := hB.size; omega) _) 1
    have hB2h := hide hB2
    have hBs := hB.size
    clear hB2
    go_region
    all_goals
      go_wp2_with fail
      go_meet
    · exact ⟨_, _, rfl, rfl, by omega, by omega, by omega, blk_heap (by simp [blk_setRow_if, blk_alloc_if, blk_drew_at, rowPut_some, q, n1, n2]), blk_heap (by simp [blk_setRow_if, blk_alloc_if, blk_drew_at, rowPut_some, q, n1, n2]), blk_heap (by simp [blk_setRow_if, blk_alloc_if, blk_drew_at, rowPut_some, q, n1, n2]), below_setRow (below_setRow hB2h.out (by omega) _) (by omega) _⟩
    · exact ⟨_, _, rfl, rfl, by omega, by omega, by omega, blk_heap (by simp [blk_setRow_if, blk_alloc_if, blk_drew_at, rowPut_some, q, n1, n2]), blk_heap (by simp [blk_setRow_if, blk_alloc_if, blk_drew_at, rowPut_some, q, n1, n2]), blk_heap (by simp [blk_setRow_if, blk_alloc_if, blk_drew_at, rowPut_some, q, n1, n2]), below_setRow (below_setRow hB2h.out (by omega) _) (by omega) _⟩
  case rest =>
    obtain ⟨pa, pb, rfl, rfl, hne, hpa, hpb, hA, hBB, hS, hBw⟩ := hcut
    have hWs : w.heap.size ≤ W.heap.size := hB.size
    have tu := tw_up s.loss l0 l1
    have td := tw_down s.loss l0 l1
    clear c0 c1 c2 q hB
    have kA := hide (s_mark pa s k true wc hA ok' (by omega))
    go_wp2_with fail
    refine kA.out.mono ?_
    rintro e w3 ⟨rfl, hA3, g3⟩
    have hB3 : StAt w3 pb s := (only_blk g3 hBB.lt (by omega)).trans hBB
    have hS3 : StAt w3 w2.heap.size s := (only_blk g3 hS.lt (by omega)).trans hS
    have hBw3 := below_of_only hBw g3 hBw.size (by omega)
    have hBB' := hBB.lt
    have hA' := hA.lt
    have kB := hide (s_mark pb s k false w3 hB3 ok' (by omega))
    have g3s := g3.size
    clear kA hA hBB hS hBw g3
    go_wp2_with fail
    refine kB.out.mono ?_
    rintro e w4 ⟨rfl, hB4, g4⟩
    have hA4 : StAt w4 pa (stMark s true) := (only_blk g4 hA3.lt (by omega)).trans hA3
    have hS4 : StAt w4 w2.heap.size s := (only_blk g4 hS3.lt (by omega)).trans hS3
    have hBw4 := below_of_only hBw3 g4 hBw3.size (by omega)
    have d0 : w4.cell? ⟨pa, 0, none⟩ = some (.int .i64 (twZ s.loss 65535 16)) := hA4.c0
    have e0 : w4.cell? ⟨pb, 0, none⟩ = some (.int .i64 (twZ s.loss 0 16)) := hB4.c0
    have c0 : w4.cell? ⟨w2.heap.size, 0, none⟩ = some (.int .i64 s.loss) := hS4.c0
    clear kB hB3 hS3 hBw3 g4 hA3 hA4 hB4 hS4 ok'
    generalize twZ s.loss 65535 16 = X at *
    generalize twZ s.loss 0 16 = Y at *
    generalize s.loss = L at *
    rcases td with td | ⟨rfl, rfl⟩
    · go_wp2_with fail
      go_ret
      exact ⟨rfl, hBw4⟩
    · go_wp2_with fail
      go_ret
      exact ⟨rfl, hBw4⟩
end Go.Proofs.Ytnbpgedeoflmgaa

/- The walk of the law PacerPlays: it answers true for all calls. -/
import Derived.Test.YtchpiiccdoejdaaPacer5
namespace Go.Proofs.Ytchpiiccdoejdaa
open Go.RowKit
attribute [local irreducible] satZ bkTick bkTake bkMay bkRight bkChange bkErr
attribute [local irreducible] blk wLoad wLoadRes loadAns wStore wStoreRes storeAns Plain bkA
attribute [local go_sem ↓] ld_rb0 sto_rb0
attribute [local go_sem] ld_rb sto_rb loadAns_some storeAns_some bkA_plain bkA_size blk_alloc_if blk_setRow_if blk_drew_at blk_drewN_at rowPut_some
set_option maxRecDepth 100000 in
set_option maxHeartbeats 2000000 in
theorem pacerPlays_walk (a0 : Int) (a1 : Int) (a2 : Option Addr) (len2 cap2 : Nat) (w : World) (w0 : (Lit.int .i64 a0).wf = true) (w1 : (Lit.int .i64 a1).wf = true) (w2 : IsRec [some .i64, some .i64, some .i64] w a2 len2 cap2) :
    Calls Try.prog 4 #[.int .i64 a0, .int .i64 a1, .slice a2 len2 cap2] w fun e w' => e = .returned (.bool true) ∧ Below w.heap.size w w' := by
  obtain ⟨g, hg⟩ := bops_open w2
  have hn : len2 ≤ 9223372036854775807 := by obtain ⟨_, _, _, h1, h2, _⟩ := w2; unfold maxLen at h2; omega
  have hgh := hide hg
  have hz := zeroRbk
  clear w0 w1 w2 hg
  go_enter Try.func4, Try.ntmps4
  go_wp2_with fail
  refine (pc_awake w).mono ?_
  rintro e w1 ⟨rfl, hb1⟩
  have hs1 := hb1.size
  cases hr : bkRight a0 a1
  · have hp := Lib.hid (pl_no a0 a1 a2 len2 cap2 w1 hr)
    clear hr hgh
    go_wp2_with fail
    refine hp.out.mono ?_
    rintro e w2 ⟨rfl, hb2⟩
    have hB := hb1.trans (hb2.mono hs1)
    have hBs := hB.size
    clear hb1 hb2
    go_wp2_with fail
    go_ret
    exact ⟨rfl, below_setRow (hB.alloc hBs _) hBs _⟩
  · have hp := Lib.hid (pl_yes a0 a1 a2 len2 cap2 g w1 (hgh.out.below hb1) hn hr)
    clear hr hgh
    go_wp2_with fail
    refine hp.out.mono ?_
    rintro e w2 ⟨s, p, hok, rfl, hk, hpp, hb2⟩
    have hB := hb1.trans (hb2.mono hs1)
    have hBs := hB.size
    clear hb1 hb2 hk hok
    go_wp2_with fail
    go_ret
    exact ⟨rfl, below_setRow (hB.alloc hBs _) hBs _⟩
end Go.Proofs.Ytchpiiccdoejdaa

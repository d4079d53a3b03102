/- The walk of the law SeqTakes: it answers true for every list of numbers. -/
import Derived.Test.YtickioeepicgcaaSeqPlayed
namespace Go.Proofs.Ytickioeepicgcaa
open Go.RowKit
attribute [local irreducible] behindZ bw goneM sqLost sqTake sqHoles sqHas sqA rkA foldS
attribute [local irreducible] blk wLoad wLoadRes loadAns wStore wStoreRes storeAns Plain
attribute [local go_sem ↓] ld_rk0 ld_sq0 st_sq0 st_rk0
attribute [local go_sem] ld_rk loadAns_some rk_size69 ld_sq st_sq st_rk storeAns_some sq_size6 sq_plain rk_plain blk_alloc_if blk_setRow_if blk_drew_at blk_drewN_at rowPut_some
set_option maxRecDepth 100000 in
set_option maxHeartbeats 2000000 in
theorem seqTakes_walk (a0 : Option Addr) (len0 cap0 : Nat) (z0 : List Int) (w : World) (w0 : IsRow .u32 w a0 len0 cap0 z0) :
    Calls Try.prog 3 #[.slice a0 len0 cap0] w fun e w' => e = .returned (.bool true) ∧ Below w.heap.size w w' := by
  obtain ⟨l, rfl, h1, h2, hlb, hs⟩ := isRow_nat w0 4294967296 u32_bd
  unfold maxLen at h2
  have hlbh := hide hlb
  have hsh := hide hs
  have hz := zeroRk
  rw [zS_z0] at hz
  have hz2 := zeroSq
  clear w0 hlb hs
  go_enter Try.func3, Try.ntmps3
  go_wp2_with fail
  refine (sq_awake w).mono ?_
  rintro e w1 ⟨rfl, hb1⟩
  go_wp2_with fail
  refine (sq_played a0 cap0 l w1 (hsh.out.below hb1) hlbh.out (by omega)).mono ?_
  rintro e w2 ⟨k, hk, hk2, rfl, hb2⟩
  have hb := hb1.trans (hb2.mono hb1.size)
  have hs2 : w.heap.size ≤ w2.heap.size := hb.size
  clear hb1 hb2
  generalize foldS l k = s
  go_wp2_with fail
  go_ret
  exact ⟨rfl, by
    refine below_setRow (below_setRow ((hb.alloc hs2 _).alloc ?_ _) ?_ _) ?_ _
    · show _ ≤ (w2.heap.push _).size; rw [Array.size_push]; omega
    · exact hs2
    · omega⟩
end Go.Proofs.Ytickioeepicgcaa

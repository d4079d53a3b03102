/- The law's awake of layer 13, and what the laws' walks share. -/
import Derived.Test.YtnbpgedeoflmgaaStats6
namespace Go.Proofs.Ytnbpgedeoflmgaa
open Go.RowKit
theorem StOk.mono {s : StS} {c d : Int} (h : StOk s c) (hc : c ≤ d) : StOk s d := ⟨h.l0, h.l1, h.r0, h.r1, h.v0, h.v1, h.m0, Int.le_trans h.m1 hc, h.t0, Int.le_trans h.t1 hc⟩
theorem aw_trip : stTrip z0T 4 = ⟨0, 32, 16, 0, 1⟩ := by rfl
theorem aw_wait : waZ ⟨0, 32, 16, 0, 1⟩ = 12 := by decide +kernel
theorem aw_need : ndZ 0 4 10 = 4 := by decide +kernel
theorem aw_ok : StOk ⟨0, 32, 16, 0, 1⟩ 1 := ⟨by decide, by decide, by decide, by decide, by decide, by decide, by decide, by decide, by decide, by decide⟩
theorem aw_ok0 : StOk z0T 0 := ⟨by decide, by decide, by decide, by decide, by decide, by decide, by decide, by decide, by decide, by decide⟩
attribute [local irreducible] twZ tick8 clampZ floorZ satZ cdZ stTrip waZ ndZ
attribute [local irreducible] blk wLoad wLoadRes loadAns wStore wStoreRes storeAns Plain stA
attribute [local go_sem ↓] ld_s0 ld_r0 sto_s0 sto_r0
attribute [local go_sem] ld_s ld_r sto_s sto_r loadAns_some storeAns_some st_size5 st_plain blk_alloc_if blk_setRow_if blk_drew_at blk_drewN_at rowPut_some
set_option maxHeartbeats 1000000 in
theorem st_awake (w : World) : Calls Try.prog 7 #[] w (ValPost w (.bool true)) := by
  have hz := zeroSt
  have h0 : StAt (w.alloc (.cells (stA z0T) 25)) w.heap.size z0T := last_block0 _ _ _ rfl
  have hb0 : Below w.heap.size w (w.alloc (.cells (stA z0T) 25)) := (Below.refl _ _).alloc (Nat.le_refl _) _
  go_enter Try.func7, Try.ntmps7
  go_upto_region 2 with (fail)
  generalize World.alloc w _ = W at h0 hb0 ⊢
  have k0 := hide (s_trip w.heap.size z0T 0 4 W h0 aw_ok0 (by omega))
  rw [aw_trip] at k0
  clear h0 hz
  go_wp2_with fail
  refine k0.out.mono ?_
  rintro e w1 ⟨rfl, h1, g1⟩
  have b1 := below_of_only hb0 g1 hb0.size (Nat.le_refl _)
  have c1 : w1.cell? ⟨w.heap.size, 1, none⟩ = some (.int .i64 32) := h1.c1
  have c2 : w1.cell? ⟨w.heap.size, 2, none⟩ = some (.int .i64 16) := h1.c2
  have q := blk_of h1
  have k1 := hide (s_wait ⟨0, 32, 16, 0, 1⟩ 1 w1 aw_ok)
  rw [aw_wait] at k1
  have hl := h1.lt
  clear h1 g1 k0 hb0
  go_wp2_with fail
  refine k1.out.mono ?_
  rintro e w2 ⟨rfl, hb2⟩
  have q2 := (blk_below hb2 hl).trans q
  have b2 := b1.trans (hb2.mono (by omega))
  have k2 := hide (s_need ⟨0, 32, 16, 0, 1⟩ 1 4 10 w2 aw_ok (by omega) (by omega))
  rw [show (StS.mk 0 32 16 0 1).loss = 0 from rfl, aw_need] at k2
  clear hb2 q c1 c2 k1 b1
  go_wp2_with fail
  refine k2.out.mono ?_
  rintro e w3 ⟨rfl, hb3⟩
  have b3 := b2.trans (hb3.mono (by have := b2.size; omega))
  clear hb3 q2 k2 b2
  go_wp2_with fail
  go_ret
  exact ⟨rfl, b3⟩
end Go.Proofs.Ytnbpgedeoflmgaa

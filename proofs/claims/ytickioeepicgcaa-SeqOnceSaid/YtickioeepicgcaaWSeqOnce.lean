/- The walk of the law SeqOnce: it answers true for every list of numbers and every number. -/
import Derived.Test.YtickioeepicgcaaSeqOnce
namespace Go.Proofs.Ytickioeepicgcaa
open Go.RowKit
attribute [local irreducible] behindZ bw goneM sqLost sqTake sqHoles sqHas sqA rkA foldS
attribute [local irreducible] blk wLoad wLoadRes loadAns wStore wStoreRes storeAns Plain
attribute [local go_sem ↓] ld_rk0 ld_sq0 st_sq0 st_rk0
attribute [local go_sem] ld_rk loadAns_some rk_size69 ld_sq st_sq st_rk storeAns_some sq_size6 sq_plain rk_plain blk_alloc_if blk_setRow_if blk_drew_at blk_drewN_at rowPut_some
theorem sq_top (s : SqS) : (sqA s)[1]? = some (.int .u32 s.top) := by unfold sqA; rfl
theorem sq_came (s : SqS) : (sqA s)[3]? = some (.int .i64 s.came) := by unfold sqA; rfl
set_option maxRecDepth 100000 in
set_option maxHeartbeats 2000000 in
theorem seqOnce_walk (a0 : Option Addr) (len0 cap0 : Nat) (z0 : List Int) (a1 : Int) (w : World) (w0 : IsRow .u32 w a0 len0 cap0 z0) (w1 : (Lit.int .u32 a1).wf = true) :
    Calls Try.prog 4 #[.slice a0 len0 cap0, .int .u32 a1] w fun e w' => e = .returned (.bool true) ∧ Below w.heap.size w w' := by
  obtain ⟨l, rfl, h1, h2, hlb, hs⟩ := isRow_nat w0 4294967296 u32_bd
  obtain ⟨n, rfl, hn⟩ := u32_nat w1
  unfold maxLen at h2
  have hlbh := hide hlb
  have hsh := hide hs
  have hz := zeroRk
  rw [zS_z0] at hz
  have hz2 := zeroSq
  clear w0 hlb hs w1
  go_enter Try.func4, Try.ntmps4
  go_wp2_with fail
  refine (sq_awake w).mono ?_
  rintro e w1 ⟨rfl, hb1⟩
  go_wp2_with fail
  refine (sq_played a0 cap0 l w1 (hsh.out.below hb1) hlbh.out (by omega)).mono ?_
  rintro e w2 ⟨k, hk, hk2, rfl, hb2⟩
  have hb := hb1.trans (hb2.mono hb1.size)
  have hs2 : w.heap.size ≤ w2.heap.size := hb.size
  have hok := foldS_ok l hlbh.out k hk2
  clear hb1 hb2
  generalize foldS l k = s at *
  go_upto_region 6 with (fail)
  have hS : SqAt ((((w2.alloc (.cells (sqA z0S) 27)).alloc (.cells (rkA z0S) 30)).setRow w2.heap.size (sqA s)).setRow (w2.heap.size + 1) (rkA s)) w2.heap.size s :=
    (setRow_other _ _ _ _ (by omega)).trans (setRow_heap _ _ _ _ _ _ (blk_alloc (last_block0 w2 _ _ rfl) _))
  have hB : Below w.heap.size w ((((w2.alloc (.cells (sqA z0S) 27)).alloc (.cells (rkA z0S) 30)).setRow w2.heap.size (sqA s)).setRow (w2.heap.size + 1) (rkA s)) := by
    refine below_setRow (below_setRow ((hb.alloc hs2 _).alloc ?_ _) ?_ _) ?_ _
    · show _ ≤ (w2.heap.push _).size; rw [Array.size_push]; omega
    · exact hs2
    · omega
  generalize World.setRow (World.setRow _ _ _) _ _ = W at hS hB ⊢
  have hlaw := hide (once_law s n)
  have hT := hide (s_take w2.heap.size s _ n W hS hok (by omega))
  have hok2 := sqTake_ok s _ (n : Int) hok (by omega) (by omega)
  clear hS hok hb
  go_wp2_with fail
  refine hT.out.mono ?_
  rintro e w3 ⟨rfl, hS3, hg3⟩
  have hB3 := below_of_only hB hg3 hB.size hs2
  have hp := hS3.lt
  clear hT hg3 hB
  generalize hs1 : (sqTake s n).1 = s1 at *
  have hs1h := Lib.hid hs1
  clear hs1
  have k3 := blk_of hS3
  clear hS3
  have hne : ¬ w2.heap.size = w3.heap.size := by omega
  go_upto_region 8 with (fail)
  have hS4 : SqAt ((w3.alloc (.cells (sqA z0S) 27)).setRow w3.heap.size (sqA s1)) w2.heap.size s1 := (setRow_other _ _ _ _ hne).trans (blk_alloc (blk_heap k3) _)
  have hS9 : SqAt ((w3.alloc (.cells (sqA z0S) 27)).setRow w3.heap.size (sqA s1)) w3.heap.size s1 := setRow_heap _ _ _ _ _ _ (last_block0 w3 _ _ rfl)
  have hB4 : Below w.heap.size w ((w3.alloc (.cells (sqA z0S) 27)).setRow w3.heap.size (sqA s1)) := below_setRow (hB3.alloc hB3.size _) hB3.size _
  clear hB3 k3
  generalize World.setRow _ _ _ = V at hS4 hS9 hB4 ⊢
  have hT := hide (s_take w2.heap.size s1 _ n V hS4 hok2 (by omega))
  have h9l := hS9.lt
  have h9h := hide hS9
  clear hS4 hok2 hS9
  go_wp2_with fail
  refine hT.out.mono ?_
  rintro e w4 ⟨rfl, hS5, hg5⟩
  have hB5 := below_of_only hB4 hg5 hB4.size hs2
  have hS9 : SqAt w4 w3.heap.size s1 := (hg5.block _ h9l (by intro e; injection e; omega)).trans h9h.out
  generalize hs2' : (sqTake s1 n).1 = t at *
  clear hT hg5 hB4 h9h hne
  have k5 := blk_of hS5
  have k9 := blk_of hS9
  have c51 : w4.cell? ⟨w2.heap.size, 1, none⟩ = some (.int .u32 t.top) := by rw [cell_of_block hS5]; exact sq_top t
  have c53 : w4.cell? ⟨w2.heap.size, 3, none⟩ = some (.int .i64 t.came) := by rw [cell_of_block hS5]; exact sq_came t
  have c91 : w4.cell? ⟨w3.heap.size, 1, none⟩ = some (.int .u32 s1.top) := by rw [cell_of_block hS9]; exact sq_top s1
  have c93 : w4.cell? ⟨w3.heap.size, 3, none⟩ = some (.int .i64 s1.came) := by rw [cell_of_block hS9]; exact sq_came s1
  have hhas := hide (s_has w2.heap.size t n w4 hS5)
  rcases hlaw.out with ⟨h1, h2, h3, h4, h5⟩ | ⟨h1, h2, h3, h4, h5⟩
  · rw [h3] at c53
    rw [h4] at c51
    rw [h5] at hhas
    rw [h2]
    clear hs1h hs2' hlaw h2 h3 h4 h5 hS5 hS9
    rcases h1 with h1 | h1
    all_goals
      rw [h1]
      clear h1
      go_wp2_with fail
      refine hhas.out.mono ?_
      rintro e w5 ⟨rfl, n5, hw5⟩
      have d51 : w5.cell? ⟨w2.heap.size, 1, none⟩ = some (.int .u32 s1.top) := by rw [hw5]; exact c51
      have d53 : w5.cell? ⟨w2.heap.size, 3, none⟩ = some (.int .i64 s1.came) := by rw [hw5]; exact c53
      have d91 : w5.cell? ⟨w3.heap.size, 1, none⟩ = some (.int .u32 s1.top) := by rw [hw5]; exact c91
      have d93 : w5.cell? ⟨w3.heap.size, 3, none⟩ = some (.int .i64 s1.came) := by rw [hw5]; exact c93
      have hB6 : Below w.heap.size w w5 := by rw [hw5]; exact below_drewN hB5 _
      clear hw5 c51 c53 c91 c93 k5 k9 hhas hB5
      go_wp2_with fail
      go_ret
      exact ⟨rfl, hB6⟩
  · have e3 := h3.symm
    have e4 := h4.symm
    clear h3 h4
    subst e3
    subst e4
    have hneq := neq_sq s
    rw [h5] at hhas
    rw [h1]
    clear hs1h hs2' hlaw h1 h2 h5 hS5 hS9
    go_wp2_with fail
    refine hhas.out.mono ?_
    rintro e w5 ⟨rfl, n5, hw5⟩
    have d51 : w5.cell? ⟨w2.heap.size, 1, none⟩ = some (.int .u32 s.top) := by rw [hw5]; exact c51
    have d53 : w5.cell? ⟨w2.heap.size, 3, none⟩ = some (.int .i64 s.came) := by rw [hw5]; exact c53
    have d91 : w5.cell? ⟨w3.heap.size, 1, none⟩ = some (.int .u32 s.top) := by rw [hw5]; exact c91
    have d93 : w5.cell? ⟨w3.heap.size, 3, none⟩ = some (.int .i64 s.came) := by rw [hw5]; exact c93
    have hB6 : Below w.heap.size w w5 := by rw [hw5]; exact below_drewN hB5 _
    clear hw5 c51 c53 c91 c93 k5 k9 hhas hB5
    go_wp2_with fail
    go_ret
    exact ⟨rfl, hB6⟩
end Go.Proofs.Ytickioeepicgcaa

/- The document's Take of layer 8: the first number, and a newer one; whole. Conditions: the counts are small. -/
import Derived.Test.YtickioeepicgcaaSeqRef3
namespace Go.Proofs.Ytickioeepicgcaa
open Go.RowKit
attribute [local irreducible] behindZ bw goneM sqLost rkA bwD
set_option maxHeartbeats 1000000 in
theorem r_take_first (s : SqS) (n : Int) (w : World) (ha : s.any = false) :
    Calls Try.prog 13 #[.agg (rkA s), .int .u32 n] w (RkPost w (⟨true, n, m1, 1, 0, 0⟩, 0)) := by
  have hz := zeroRk
  obtain ⟨hs, ho, hbl⟩ := two_blocks w s
  have hsz : w.heap.size + 2 = ((w.alloc (.cells (rkA s) 30)).alloc (.cells (rkA zS) 30)).heap.size := by
    show _ = ((w.heap.push _).push _).size
    rw [Array.size_push, Array.size_push]
  go_enter Try.func13, Try.ntmps13
  go_upto_region 1 with (fail)
  generalize World.alloc (World.alloc w _) _ = W at *
  have c0 : W.cell? ⟨w.heap.size, 0, none⟩ = some (.bool false) := by rw [cell_of_block hs, rkA_0, ha]
  have hs2 : RkAt _ W.heap.size zS := last_block0 W (.cells (rkA zS) 30) _ rfl
  have ho2 := RkAt.alloc ho (.cells (rkA zS) 30)
  have hbl2 := hbl.alloc (by rw [← hsz]; omega) (.cells (rkA zS) 30)
  clear hs ho hbl
  go_upto_region 3 with (fail)
  generalize World.alloc W _ = V at *
  have f0 : V.frozen? ⟨W.heap.size, 0, none⟩ = false := frozen_of_row V _ _ _ _ hs2
  have f1 : V.frozen? ⟨W.heap.size, 1, none⟩ = false := frozen_of_row V _ _ _ _ hs2
  have f2 : V.frozen? ⟨W.heap.size, 2, none⟩ = false := frozen_of_row V _ _ _ _ hs2
  have f66 : V.frozen? ⟨W.heap.size, 66, none⟩ = false := frozen_of_row V _ _ _ _ hs2
  have d0 : V.cell? ⟨W.heap.size, 0, none⟩ = some (.bool false) := by rw [cell_of_block hs2]; exact rkA_0 zS
  have d1 : V.cell? ⟨W.heap.size, 1, none⟩ = some (.int .u32 0) := by rw [cell_of_block hs2]; exact rkA_1 zS
  have d2 : V.cell? ⟨W.heap.size, 2, none⟩ = some (.bool false) := by rw [cell_of_block hs2]; exact rkA_m zS 0 (by omega)
  have d66 : V.cell? ⟨W.heap.size, 66, none⟩ = some (.int .i64 0) := by rw [cell_of_block hs2]; exact rkA_66 zS
  have hx : RkAt ((((V.setCell ⟨W.heap.size, 0, none⟩ (.bool true)).setCell ⟨W.heap.size, 1, none⟩ (.int .u32 n)).setCell ⟨W.heap.size, 66, none⟩ (.int .i64 1)).setCell ⟨W.heap.size, 2, none⟩ (.bool true)) W.heap.size ⟨true, n, m1, 1, 0, 0⟩ :=
    ((((hs2.set0 true).set1 n).set66 1).setm 0 true (by omega)).to (rkA_congr _ _ rfl rfl (fun i _ => by unfold m1 zS; by_cases h : i = 0 <;> simp [h]) rfl rfl rfl)
  have hne : w.heap.size + 1 ≠ W.heap.size := by omega
  have hox := (((ho2.other hne 0 (.bool true)).other hne 1 (.int .u32 n)).other hne 66 (.int .i64 1)).other hne 2 (.bool true)
  have hle : w.heap.size ≤ W.heap.size := by omega
  have hblx := (((hbl2.setCell (p := ⟨W.heap.size, 0, none⟩) hle (.bool true)).setCell (p := ⟨W.heap.size, 1, none⟩) hle (.int .u32 n)).setCell (p := ⟨W.heap.size, 66, none⟩) hle (.int .i64 1)).setCell (p := ⟨W.heap.size, 2, none⟩) hle (.bool true)
  clear hz hbl2 ho2
  have hxh := hide hx
  have hoxh := hide hox
  clear hx hox hs2
  go_upto_region 5 with (fail)
  have hx := hxh.out
  have hox := hoxh.out
  clear hxh hoxh
  generalize World.setCell (World.setCell (World.setCell _ _ _) _ _) _ _ = U at hx hox hblx ⊢
  clear f0 f1 f2 f66 d0 d1 d2 d66
  have hxr : U.heap[W.heap.size]? = some (.cells (rkA ⟨true, n, m1, 1, 0, 0⟩) 30 (0, 0)) := hx
  have hor : U.heap[w.heap.size + 1]? = some (.cells (rkA zS) 30 (0, 0)) := hox
  go_wp2_with (first | (refine wpList_load_row rfl _ _ rfl _ rfl _ _ _ _ hxr Try.underlying30 rfl (rk_info _) ?_) | (refine wpList_store_row rfl _ _ _ rfl _ _ rfl rfl _ _ hor (rk_info _) (rkA_sz _ _) (rkA_one _) ?_))
  refine bodyPost_ret (v := .tuple #[.agg (rkA ⟨true, n, m1, 1, 0, 0⟩), .int .i64 0]) ?hres rfl ?hpost
  case hpost => exact ⟨rfl, below_setRow hblx (by omega) _⟩
  case hres =>
    refine results_row_tmp rfl _ _ (w.heap.size + 1) 30 (rkA ⟨true, n, m1, 1, 0, 0⟩) (0, 0) _ (.int .i64 0) rfl rfl ?hg Try.underlying30 rfl (rk_info _)
    case hg => exact setRow_heap _ _ _ _ _ _ hor
end Go.Proofs.Ytickioeepicgcaa

/- More contracts of backstayref01's wide numbers: Turn, Plus, Held, Parts, Times, and Add, Sub, Mul held at the limits. Conditions: the numbers are below 65536 to the 9th (to the 8th for Parts, to the 4th for the factors). -/
import Derived.Test.YtangfbahljdbhaaWide
import Derived.Test.YtangfbahljdbhaaWord
namespace Go.Proofs.Ytangfbahljdbhaa
open Go.RowKit
attribute [local irreducible] wideA dg satZ

set_option maxHeartbeats 400000 in
theorem r_turn (m : Bool) (v : Nat) (w : World) :
    Calls Try.prog 35 #[.agg (wideA m (dg v))] w (WidePost w (!m) v) := by
  have hz := zeroWide
  go_enter Try.func35, Try.ntmps35
  go_upto_region 1 with (fail)
  generalize hW : (w.alloc (Obj.cells (wideA m (dg v)) 40)).alloc (Obj.cells (wideA false fun _ => 0) 40) = W
  have hb0 : W.heap[w.heap.size]? = some (.cells (wideA m (dg v)) 40 (0, 0)) := by rw [← hW]; exact blk_alloc (last_block0 _ _ _ rfl) _
  have hb1 : W.heap[w.heap.size + 1]? = some (.cells (wideA false (fun _ => 0)) 40 (0, 0)) := by rw [← hW]; exact last_block0 _ _ _ (by simp)
  have hbel : Below w.heap.size w W := by rw [← hW]; exact ((Below.refl _ _).alloc (Nat.le_refl _) _).alloc (by simp) _
  clear hW hz
  have c0 : W.cell? ⟨w.heap.size, 0, none⟩ = some (.bool m) := by rw [cell_of_block hb0]; exact wideA_get0 _ _
  have f0 : W.frozen? ⟨w.heap.size, 0, none⟩ = false := frozen_blk hb0
  go_upto_region 2 with (fail)
  generalize hW : W.setCell _ _ = V
  have hd0 : V.heap[w.heap.size]? = some (.cells (wideA (!m) (dg v)) 40 (0, 0)) := by rw [← hW, blk_set hb0, wideA_set0]
  have hd1 : V.heap[w.heap.size + 1]? = some (.cells (wideA false (fun _ => 0)) 40 (0, 0)) := by rw [← hW]; exact blk_set_other hb1 (by omega) _ _
  have hvel : Below w.heap.size w V := by rw [← hW]; exact hbel.setCell (Nat.le_refl _) _
  clear hW
  go_wp2_with (first | (refine wpList_load_row rfl _ _ rfl _ rfl _ _ _ _ hd0 Try.underlying40 rfl (wide_info _ _) ?_) | (refine wpList_store_row rfl _ _ _ rfl _ _ rfl rfl _ _ hd1 (wide_info _ _) (wideA_sz _ _ _ _) (wideA_one _ _) ?_))
  refine bodyPost_ret (v := .agg (wideA (!m) (dg v))) (results_cell_row rfl _ _ (w.heap.size + 1) 40 (wideA (!m) (dg v)) (0, 0) _ rfl ?_ Try.underlying40 rfl (wide_info _ _)) rfl ?_
  · exact setRow_heap _ _ _ _ _ _ hd1
  · exact ⟨rfl, below_setRow hvel (by omega) _⟩

set_option maxHeartbeats 1000000 in
theorem r_Plus_same (m : Bool) (va vb : Nat) (w : World) :
    Calls Try.prog 34 #[.agg (wideA m (dg va)), .agg (wideA m (dg vb))] w (WidePost w m (va + vb)) := by
  have hz := zeroWide
  go_enter Try.func34, Try.ntmps34
  go_upto_region 1 with (fail)
  generalize hW : ((w.alloc (Obj.cells (wideA m (dg va)) 40)).alloc (Obj.cells (wideA m (dg vb)) 40)).alloc (Obj.cells (wideA false fun _ => 0) 40) = W
  have hb0 : W.heap[w.heap.size]? = some (.cells (wideA m (dg va)) 40 (0, 0)) := by rw [← hW]; exact blk_alloc (blk_alloc (last_block0 _ _ _ rfl) _) _
  have hb1 : W.heap[w.heap.size + 1]? = some (.cells (wideA m (dg vb)) 40 (0, 0)) := by rw [← hW]; exact blk_alloc (last_block0 _ _ _ (by simp)) _
  have hb2 : W.heap[w.heap.size + 2]? = some (.cells (wideA false (fun _ => 0)) 40 (0, 0)) := by rw [← hW]; exact last_block0 _ _ _ (by simp)
  have hbel : Below w.heap.size w W := by rw [← hW]; exact (((Below.refl _ _).alloc (Nat.le_refl _) _).alloc (by simp) _).alloc (by simp; omega) _
  have hsz : w.heap.size + 3 = W.heap.size := by rw [← hW]; simp
  clear hW
  have hszh := hide hsz
  have hle : w.heap.size + 3 ≤ W.heap.size := Nat.le_of_eq hsz
  clear hsz
  have c0 : W.cell? ⟨w.heap.size, 0, none⟩ = some (.bool m) := by rw [cell_of_block hb0]; exact wideA_get0 _ _
  have c1 : W.cell? ⟨w.heap.size + 1, 0, none⟩ = some (.bool m) := by rw [cell_of_block hb1]; exact wideA_get0 _ _
  go_upto_region 2 with (fail)
  go_wp2_with (first | (refine wpList_load_row rfl _ _ rfl _ rfl _ _ _ _ hb0 Try.underlying40 rfl (wide_info _ _) ?_) | (refine wpList_load_row rfl _ _ rfl _ rfl _ _ _ _ hb1 Try.underlying40 rfl (wide_info _ _) ?_))
  refine (r_plus m m va vb W).mono ?_
  rintro e w1 ⟨rfl, hB⟩
  have hz0 : w1.heap[w.heap.size]? = some (.cells (wideA m (dg va)) 40 (0, 0)) := (hB.block _ (by omega)).trans hb0
  have hz1 : w1.heap[w.heap.size + 1]? = some (.cells (wideA m (dg vb)) 40 (0, 0)) := (hB.block _ (by omega)).trans hb1
  have hz2 : w1.heap[w.heap.size + 2]? = some (.cells (wideA false (fun _ => 0)) 40 (0, 0)) := (hB.block _ (by omega)).trans hb2
  have hle1 : w.heap.size + 3 ≤ w1.heap.size := Nat.le_trans hle hB.size
  have hbel1 : Below w.heap.size w w1 := hbel.trans (hB.mono (by omega))
  clear hb0 hb1 hb2 c0 c1 hB hbel
  have hn := last_block0 w1 (.cells (wideA false (fun _ => 0)) 40) w1.heap.size rfl
  go_upto_region 3 with (refine wpList_store_row rfl _ _ _ rfl _ _ rfl rfl _ _ hn (wide_info _ _) (wideA_sz _ _ _ _) (wideA_one _ _) ?_)
  generalize hW : World.setRow _ _ _ = V
  have hd0 : V.heap[w.heap.size]? = some (.cells (wideA m (dg va)) 40 (0, 0)) := by rw [← hW, setRow_other _ _ _ _ (by omega)]; exact blk_alloc hz0 _
  have hd1 : V.heap[w.heap.size + 1]? = some (.cells (wideA m (dg vb)) 40 (0, 0)) := by rw [← hW, setRow_other _ _ _ _ (by omega)]; exact blk_alloc hz1 _
  have hd2 : V.heap[w.heap.size + 2]? = some (.cells (wideA false (fun _ => 0)) 40 (0, 0)) := by rw [← hW, setRow_other _ _ _ _ (by omega)]; exact blk_alloc hz2 _
  have hd3 : V.heap[w1.heap.size]? = some (.cells (wideA m (dg (va + vb))) 40 (0, 0)) := by rw [← hW]; exact setRow_heap _ _ _ _ _ _ hn
  have hvel : Below w.heap.size w V := by rw [← hW]; exact below_setRow (hbel1.alloc (by omega) _) (by omega) _
  clear hW hn hz0 hz1 hz2 hbel1
  have c0 : V.cell? ⟨w.heap.size, 0, none⟩ = some (.bool m) := by rw [cell_of_block hd0]; exact wideA_get0 _ _
  have c3 : V.cell? ⟨w1.heap.size, 0, none⟩ = some (.bool m) := by rw [cell_of_block hd3]; exact wideA_get0 _ _
  have f3 : V.frozen? ⟨w1.heap.size, 0, none⟩ = false := frozen_blk hd3
  go_upto_region 4 with (fail)
  generalize hW : V.setCell _ _ = X
  have he2 : X.heap[w.heap.size + 2]? = some (.cells (wideA false (fun _ => 0)) 40 (0, 0)) := by rw [← hW]; exact blk_set_other hd2 (by omega) _ _
  have he3 : X.heap[w1.heap.size]? = some (.cells (wideA m (dg (va + vb))) 40 (0, 0)) := by rw [← hW, blk_set hd3, wideA_set0]
  have hxel : Below w.heap.size w X := by rw [← hW]; exact hvel.setCell (by simp; omega) _
  clear hW hd0 hd1 hd2 hd3 c0 c3 f3 hvel
  go_wp2_with (first | (refine wpList_load_row rfl _ _ rfl _ rfl _ _ _ _ he3 Try.underlying40 rfl (wide_info _ _) ?_) | (refine wpList_store_row rfl _ _ _ rfl _ _ rfl rfl _ _ he2 (wide_info _ _) (wideA_sz _ _ _ _) (wideA_one _ _) ?_))
  refine bodyPost_ret (v := .agg (wideA m (dg (va + vb)))) (results_cell_row rfl _ _ (w.heap.size + 2) 40 (wideA m (dg (va + vb))) (0, 0) _ rfl ?_ Try.underlying40 rfl (wide_info _ _)) rfl ?_
  · exact setRow_heap _ _ _ _ _ _ he2
  · exact ⟨rfl, below_setRow hxel (by omega) _⟩

set_option maxHeartbeats 1000000 in
theorem r_Plus_tf_lt (va vb : Nat) (w : World) (ha : va < 65536 ^ 9) (hb : vb < 65536 ^ 9) (hlt : va < vb) :
    Calls Try.prog 34 #[.agg (wideA true (dg va)), .agg (wideA false (dg vb))] w (WidePost w false (vb - va)) := by
  have hz := zeroWide
  have hah := hide ha
  have hbh := hide hb
  have hlth := hide hlt
  clear ha hb hlt
  go_enter Try.func34, Try.ntmps34
  go_upto_region 1 with (fail)
  generalize hW : ((w.alloc (Obj.cells (wideA true (dg va)) 40)).alloc (Obj.cells (wideA false (dg vb)) 40)).alloc (Obj.cells (wideA false fun _ => 0) 40) = W
  have hb0 : W.heap[w.heap.size]? = some (.cells (wideA true (dg va)) 40 (0, 0)) := by rw [← hW]; exact blk_alloc (blk_alloc (last_block0 _ _ _ rfl) _) _
  have hb1 : W.heap[w.heap.size + 1]? = some (.cells (wideA false (dg vb)) 40 (0, 0)) := by rw [← hW]; exact blk_alloc (last_block0 _ _ _ (by simp)) _
  have hb2 : W.heap[w.heap.size + 2]? = some (.cells (wideA false (fun _ => 0)) 40 (0, 0)) := by rw [← hW]; exact last_block0 _ _ _ (by simp)
  have hbel : Below w.heap.size w W := by rw [← hW]; exact (((Below.refl _ _).alloc (Nat.le_refl _) _).alloc (by simp) _).alloc (by simp; omega) _
  have hsz : w.heap.size + 3 = W.heap.size := by rw [← hW]; simp
  clear hW
  have hszh := hide hsz
  have hle : w.heap.size + 3 ≤ W.heap.size := Nat.le_of_eq hsz
  clear hsz
  have c0 : W.cell? ⟨w.heap.size, 0, none⟩ = some (.bool true) := by rw [cell_of_block hb0]; exact wideA_get0 _ _
  have c1 : W.cell? ⟨w.heap.size + 1, 0, none⟩ = some (.bool false) := by rw [cell_of_block hb1]; exact wideA_get0 _ _
  go_upto_region 5 with (fail)
  go_wp2_with (first | (refine wpList_load_row rfl _ _ rfl _ rfl _ _ _ _ hb0 Try.underlying40 rfl (wide_info _ _) ?_) | (refine wpList_load_row rfl _ _ rfl _ rfl _ _ _ _ hb1 Try.underlying40 rfl (wide_info _ _) ?_))
  refine (r_less true false va vb W hah.out hbh.out).mono ?_
  rintro e V ⟨rfl, hB⟩
  rw [decide_eq_true hlth.out]
  have hk0 : V.heap[w.heap.size]? = some (.cells (wideA true (dg va)) 40 (0, 0)) := (hB.block _ (by omega)).trans hb0
  have hk1 : V.heap[w.heap.size + 1]? = some (.cells (wideA false (dg vb)) 40 (0, 0)) := (hB.block _ (by omega)).trans hb1
  have hk2 : V.heap[w.heap.size + 2]? = some (.cells (wideA false (fun _ => 0)) 40 (0, 0)) := (hB.block _ (by omega)).trans hb2
  have hkle : w.heap.size + 3 ≤ V.heap.size := Nat.le_trans hle hB.size
  have hkel : Below w.heap.size w V := hbel.trans (hB.mono (by omega))
  clear hb0 hb1 hb2 c0 c1 hB hbel hle hszh
  have hb0 := hk0
  have hb1 := hk1
  have hb2 := hk2
  have hbel := hkel
  have hle := hkle
  have c0 : True := trivial
  have c1 : True := trivial
  clear hk0 hk1 hk2 hkel hkle
  go_wp2_with (first | (refine wpList_load_row rfl _ _ rfl _ rfl _ _ _ _ hb0 Try.underlying40 rfl (wide_info _ _) ?_) | (refine wpList_load_row rfl _ _ rfl _ rfl _ _ _ _ hb1 Try.underlying40 rfl (wide_info _ _) ?_))
  refine (r_minus false true vb va V (Nat.le_of_lt hlth.out)).mono ?_
  rintro e w1 ⟨rfl, hB⟩
  have hz0 : w1.heap[w.heap.size]? = some (.cells (wideA true (dg va)) 40 (0, 0)) := (hB.block _ (by omega)).trans hb0
  have hz1 : w1.heap[w.heap.size + 1]? = some (.cells (wideA false (dg vb)) 40 (0, 0)) := (hB.block _ (by omega)).trans hb1
  have hz2 : w1.heap[w.heap.size + 2]? = some (.cells (wideA false (fun _ => 0)) 40 (0, 0)) := (hB.block _ (by omega)).trans hb2
  have hle1 : w.heap.size + 3 ≤ w1.heap.size := Nat.le_trans hle hB.size
  have hbel1 : Below w.heap.size w w1 := hbel.trans (hB.mono (by omega))
  clear hb0 hb1 hb2 c0 c1 hB hbel
  have hn := last_block0 w1 (.cells (wideA false (fun _ => 0)) 40) w1.heap.size rfl
  go_upto_region 7 with (refine wpList_store_row rfl _ _ _ rfl _ _ rfl rfl _ _ hn (wide_info _ _) (wideA_sz _ _ _ _) (wideA_one _ _) ?_)
  generalize hW : World.setRow _ _ _ = V2
  have hd0 : V2.heap[w.heap.size]? = some (.cells (wideA true (dg va)) 40 (0, 0)) := by rw [← hW, setRow_other _ _ _ _ (by omega)]; exact blk_alloc hz0 _
  have hd1 : V2.heap[w.heap.size + 1]? = some (.cells (wideA false (dg vb)) 40 (0, 0)) := by rw [← hW, setRow_other _ _ _ _ (by omega)]; exact blk_alloc hz1 _
  have hd2 : V2.heap[w.heap.size + 2]? = some (.cells (wideA false (fun _ => 0)) 40 (0, 0)) := by rw [← hW, setRow_other _ _ _ _ (by omega)]; exact blk_alloc hz2 _
  have hd3 : V2.heap[w1.heap.size]? = some (.cells (wideA false (dg (vb - va))) 40 (0, 0)) := by rw [← hW]; exact setRow_heap _ _ _ _ _ _ hn
  have hvel : Below w.heap.size w V2 := by rw [← hW]; exact below_setRow (hbel1.alloc (by omega) _) (by omega) _
  clear hW hn hz0 hz1 hz2 hbel1
  have c0 : V2.cell? ⟨w.heap.size + 1, 0, none⟩ = some (.bool false) := by rw [cell_of_block hd1]; exact wideA_get0 _ _
  have c3 : V2.cell? ⟨w1.heap.size, 0, none⟩ = some (.bool false) := by rw [cell_of_block hd3]; exact wideA_get0 _ _
  have f3 : V2.frozen? ⟨w1.heap.size, 0, none⟩ = false := frozen_blk hd3
  go_upto_region 8 with (fail)
  generalize hW : V2.setCell _ _ = X
  have he2 : X.heap[w.heap.size + 2]? = some (.cells (wideA false (fun _ => 0)) 40 (0, 0)) := by rw [← hW]; exact blk_set_other hd2 (by omega) _ _
  have he3 : X.heap[w1.heap.size]? = some (.cells (wideA false (dg (vb - va))) 40 (0, 0)) := by rw [← hW, blk_set hd3, wideA_set0]
  have hxel : Below w.heap.size w X := by rw [← hW]; exact hvel.setCell (by simp; omega) _
  clear hW hd0 hd1 hd2 hd3 c0 c3 f3 hvel
  go_wp2_with (first | (refine wpList_load_row rfl _ _ rfl _ rfl _ _ _ _ he3 Try.underlying40 rfl (wide_info _ _) ?_) | (refine wpList_store_row rfl _ _ _ rfl _ _ rfl rfl _ _ he2 (wide_info _ _) (wideA_sz _ _ _ _) (wideA_one _ _) ?_))
  refine bodyPost_ret (v := .agg (wideA false (dg (vb - va)))) (results_cell_row rfl _ _ (w.heap.size + 2) 40 (wideA false (dg (vb - va))) (0, 0) _ rfl ?_ Try.underlying40 rfl (wide_info _ _)) rfl ?_
  · exact setRow_heap _ _ _ _ _ _ he2
  · exact ⟨rfl, below_setRow hxel (by omega) _⟩

set_option maxHeartbeats 1000000 in
theorem r_Plus_tf_ge (va vb : Nat) (w : World) (ha : va < 65536 ^ 9) (hb : vb < 65536 ^ 9) (hlt : vb ≤ va) :
    Calls Try.prog 34 #[.agg (wideA true (dg va)), .agg (wideA false (dg vb))] w (WidePost w true (va - vb)) := by
  have hz := zeroWide
  have hah := hide ha
  have hbh := hide hb
  have hlth := hide hlt
  clear ha hb hlt
  go_enter Try.func34, Try.ntmps34
  go_upto_region 1 with (fail)
  generalize hW : ((w.alloc (Obj.cells (wideA true (dg va)) 40)).alloc (Obj.cells (wideA false (dg vb)) 40)).alloc (Obj.cells (wideA false fun _ => 0) 40) = W
  have hb0 : W.heap[w.heap.size]? = some (.cells (wideA true (dg va)) 40 (0, 0)) := by rw [← hW]; exact blk_alloc (blk_alloc (last_block0 _ _ _ rfl) _) _
  have hb1 : W.heap[w.heap.size + 1]? = some (.cells (wideA false (dg vb)) 40 (0, 0)) := by rw [← hW]; exact blk_alloc (last_block0 _ _ _ (by simp)) _
  have hb2 : W.heap[w.heap.size + 2]? = some (.cells (wideA false (fun _ => 0)) 40 (0, 0)) := by rw [← hW]; exact last_block0 _ _ _ (by simp)
  have hbel : Below w.heap.size w W := by rw [← hW]; exact (((Below.refl _ _).alloc (Nat.le_refl _) _).alloc (by simp) _).alloc (by simp; omega) _
  have hsz : w.heap.size + 3 = W.heap.size := by rw [← hW]; simp
  clear hW
  have hszh := hide hsz
  have hle : w.heap.size + 3 ≤ W.heap.size := Nat.le_of_eq hsz
  clear hsz
  have c0 : W.cell? ⟨w.heap.size, 0, none⟩ = some (.bool true) := by rw [cell_of_block hb0]; exact wideA_get0 _ _
  have c1 : W.cell? ⟨w.heap.size + 1, 0, none⟩ = some (.bool false) := by rw [cell_of_block hb1]; exact wideA_get0 _ _
  go_upto_region 5 with (fail)
  go_wp2_with (first | (refine wpList_load_row rfl _ _ rfl _ rfl _ _ _ _ hb0 Try.underlying40 rfl (wide_info _ _) ?_) | (refine wpList_load_row rfl _ _ rfl _ rfl _ _ _ _ hb1 Try.underlying40 rfl (wide_info _ _) ?_))
  refine (r_less true false va vb W hah.out hbh.out).mono ?_
  rintro e V ⟨rfl, hB⟩
  rw [decide_eq_false (Nat.not_lt.2 hlth.out)]
  have hk0 : V.heap[w.heap.size]? = some (.cells (wideA true (dg va)) 40 (0, 0)) := (hB.block _ (by omega)).trans hb0
  have hk1 : V.heap[w.heap.size + 1]? = some (.cells (wideA false (dg vb)) 40 (0, 0)) := (hB.block _ (by omega)).trans hb1
  have hk2 : V.heap[w.heap.size + 2]? = some (.cells (wideA false (fun _ => 0)) 40 (0, 0)) := (hB.block _ (by omega)).trans hb2
  have hkle : w.heap.size + 3 ≤ V.heap.size := Nat.le_trans hle hB.size
  have hkel : Below w.heap.size w V := hbel.trans (hB.mono (by omega))
  clear hb0 hb1 hb2 c0 c1 hB hbel hle hszh
  have hb0 := hk0
  have hb1 := hk1
  have hb2 := hk2
  have hbel := hkel
  have hle := hkle
  have c0 : True := trivial
  have c1 : True := trivial
  clear hk0 hk1 hk2 hkel hkle
  go_wp2_with (first | (refine wpList_load_row rfl _ _ rfl _ rfl _ _ _ _ hb0 Try.underlying40 rfl (wide_info _ _) ?_) | (refine wpList_load_row rfl _ _ rfl _ rfl _ _ _ _ hb1 Try.underlying40 rfl (wide_info _ _) ?_))
  refine (r_minus true false va vb V hlth.out).mono ?_
  rintro e w1 ⟨rfl, hB⟩
  have hz0 : w1.heap[w.heap.size]? = some (.cells (wideA true (dg va)) 40 (0, 0)) := (hB.block _ (by omega)).trans hb0
  have hz1 : w1.heap[w.heap.size + 1]? = some (.cells (wideA false (dg vb)) 40 (0, 0)) := (hB.block _ (by omega)).trans hb1
  have hz2 : w1.heap[w.heap.size + 2]? = some (.cells (wideA false (fun _ => 0)) 40 (0, 0)) := (hB.block _ (by omega)).trans hb2
  have hle1 : w.heap.size + 3 ≤ w1.heap.size := Nat.le_trans hle hB.size
  have hbel1 : Below w.heap.size w w1 := hbel.trans (hB.mono (by omega))
  clear hb0 hb1 hb2 c0 c1 hB hbel
  have hn := last_block0 w1 (.cells (wideA false (fun _ => 0)) 40) w1.heap.size rfl
  go_upto_region 10 with (refine wpList_store_row rfl _ _ _ rfl _ _ rfl rfl _ _ hn (wide_info _ _) (wideA_sz _ _ _ _) (wideA_one _ _) ?_)
  generalize hW : World.setRow _ _ _ = V2
  have hd0 : V2.heap[w.heap.size]? = some (.cells (wideA true (dg va)) 40 (0, 0)) := by rw [← hW, setRow_other _ _ _ _ (by omega)]; exact blk_alloc hz0 _
  have hd1 : V2.heap[w.heap.size + 1]? = some (.cells (wideA false (dg vb)) 40 (0, 0)) := by rw [← hW, setRow_other _ _ _ _ (by omega)]; exact blk_alloc hz1 _
  have hd2 : V2.heap[w.heap.size + 2]? = some (.cells (wideA false (fun _ => 0)) 40 (0, 0)) := by rw [← hW, setRow_other _ _ _ _ (by omega)]; exact blk_alloc hz2 _
  have hd3 : V2.heap[w1.heap.size]? = some (.cells (wideA true (dg (va - vb))) 40 (0, 0)) := by rw [← hW]; exact setRow_heap _ _ _ _ _ _ hn
  have hvel : Below w.heap.size w V2 := by rw [← hW]; exact below_setRow (hbel1.alloc (by omega) _) (by omega) _
  clear hW hn hz0 hz1 hz2 hbel1
  have c0 : V2.cell? ⟨w.heap.size, 0, none⟩ = some (.bool true) := by rw [cell_of_block hd0]; exact wideA_get0 _ _
  have c3 : V2.cell? ⟨w1.heap.size, 0, none⟩ = some (.bool true) := by rw [cell_of_block hd3]; exact wideA_get0 _ _
  have f3 : V2.frozen? ⟨w1.heap.size, 0, none⟩ = false := frozen_blk hd3
  go_upto_region 11 with (fail)
  generalize hW : V2.setCell _ _ = X
  have he2 : X.heap[w.heap.size + 2]? = some (.cells (wideA false (fun _ => 0)) 40 (0, 0)) := by rw [← hW]; exact blk_set_other hd2 (by omega) _ _
  have he3 : X.heap[w1.heap.size]? = some (.cells (wideA true (dg (va - vb))) 40 (0, 0)) := by rw [← hW, blk_set hd3, wideA_set0]
  have hxel : Below w.heap.size w X := by rw [← hW]; exact hvel.setCell (by simp; omega) _
  clear hW hd0 hd1 hd2 hd3 c0 c3 f3 hvel
  go_wp2_with (first | (refine wpList_load_row rfl _ _ rfl _ rfl _ _ _ _ he3 Try.underlying40 rfl (wide_info _ _) ?_) | (refine wpList_store_row rfl _ _ _ rfl _ _ rfl rfl _ _ he2 (wide_info _ _) (wideA_sz _ _ _ _) (wideA_one _ _) ?_))
  refine bodyPost_ret (v := .agg (wideA true (dg (va - vb)))) (results_cell_row rfl _ _ (w.heap.size + 2) 40 (wideA true (dg (va - vb))) (0, 0) _ rfl ?_ Try.underlying40 rfl (wide_info _ _)) rfl ?_
  · exact setRow_heap _ _ _ _ _ _ he2
  · exact ⟨rfl, below_setRow hxel (by omega) _⟩

set_option maxHeartbeats 1000000 in
theorem r_Plus_ft_lt (va vb : Nat) (w : World) (ha : va < 65536 ^ 9) (hb : vb < 65536 ^ 9) (hlt : va < vb) :
    Calls Try.prog 34 #[.agg (wideA false (dg va)), .agg (wideA true (dg vb))] w (WidePost w true (vb - va)) := by
  have hz := zeroWide
  have hah := hide ha
  have hbh := hide hb
  have hlth := hide hlt
  clear ha hb hlt
  go_enter Try.func34, Try.ntmps34
  go_upto_region 1 with (fail)
  generalize hW : ((w.alloc (Obj.cells (wideA false (dg va)) 40)).alloc (Obj.cells (wideA true (dg vb)) 40)).alloc (Obj.cells (wideA false fun _ => 0) 40) = W
  have hb0 : W.heap[w.heap.size]? = some (.cells (wideA false (dg va)) 40 (0, 0)) := by rw [← hW]; exact blk_alloc (blk_alloc (last_block0 _ _ _ rfl) _) _
  have hb1 : W.heap[w.heap.size + 1]? = some (.cells (wideA true (dg vb)) 40 (0, 0)) := by rw [← hW]; exact blk_alloc (last_block0 _ _ _ (by simp)) _
  have hb2 : W.heap[w.heap.size + 2]? = some (.cells (wideA false (fun _ => 0)) 40 (0, 0)) := by rw [← hW]; exact last_block0 _ _ _ (by simp)
  have hbel : Below w.heap.size w W := by rw [← hW]; exact (((Below.refl _ _).alloc (Nat.le_refl _) _).alloc (by simp) _).alloc (by simp; omega) _
  have hsz : w.heap.size + 3 = W.heap.size := by rw [← hW]; simp
  clear hW
  have hszh := hide hsz
  have hle : w.heap.size + 3 ≤ W.heap.size := Nat.le_of_eq hsz
  clear hsz
  have c0 : W.cell? ⟨w.heap.size, 0, none⟩ = some (.bool false) := by rw [cell_of_block hb0]; exact wideA_get0 _ _
  have c1 : W.cell? ⟨w.heap.size + 1, 0, none⟩ = some (.bool true) := by rw [cell_of_block hb1]; exact wideA_get0 _ _
  go_upto_region 5 with (fail)
  go_wp2_with (first | (refine wpList_load_row rfl _ _ rfl _ rfl _ _ _ _ hb0 Try.underlying40 rfl (wide_info _ _) ?_) | (refine wpList_load_row rfl _ _ rfl _ rfl _ _ _ _ hb1 Try.underlying40 rfl (wide_info _ _) ?_))
  refine (r_less false true va vb W hah.out hbh.out).mono ?_
  rintro e V ⟨rfl, hB⟩
  rw [decide_eq_true hlth.out]
  have hk0 : V.heap[w.heap.size]? = some (.cells (wideA false (dg va)) 40 (0, 0)) := (hB.block _ (by omega)).trans hb0
  have hk1 : V.heap[w.heap.size + 1]? = some (.cells (wideA true (dg vb)) 40 (0, 0)) := (hB.block _ (by omega)).trans hb1
  have hk2 : V.heap[w.heap.size + 2]? = some (.cells (wideA false (fun _ => 0)) 40 (0, 0)) := (hB.block _ (by omega)).trans hb2
  have hkle : w.heap.size + 3 ≤ V.heap.size := Nat.le_trans hle hB.size
  have hkel : Below w.heap.size w V := hbel.trans (hB.mono (by omega))
  clear hb0 hb1 hb2 c0 c1 hB hbel hle hszh
  have hb0 := hk0
  have hb1 := hk1
  have hb2 := hk2
  have hbel := hkel
  have hle := hkle
  have c0 : True := trivial
  have c1 : True := trivial
  clear hk0 hk1 hk2 hkel hkle
  go_wp2_with (first | (refine wpList_load_row rfl _ _ rfl _ rfl _ _ _ _ hb0 Try.underlying40 rfl (wide_info _ _) ?_) | (refine wpList_load_row rfl _ _ rfl _ rfl _ _ _ _ hb1 Try.underlying40 rfl (wide_info _ _) ?_))
  refine (r_minus true false vb va V (Nat.le_of_lt hlth.out)).mono ?_
  rintro e w1 ⟨rfl, hB⟩
  have hz0 : w1.heap[w.heap.size]? = some (.cells (wideA false (dg va)) 40 (0, 0)) := (hB.block _ (by omega)).trans hb0
  have hz1 : w1.heap[w.heap.size + 1]? = some (.cells (wideA true (dg vb)) 40 (0, 0)) := (hB.block _ (by omega)).trans hb1
  have hz2 : w1.heap[w.heap.size + 2]? = some (.cells (wideA false (fun _ => 0)) 40 (0, 0)) := (hB.block _ (by omega)).trans hb2
  have hle1 : w.heap.size + 3 ≤ w1.heap.size := Nat.le_trans hle hB.size
  have hbel1 : Below w.heap.size w w1 := hbel.trans (hB.mono (by omega))
  clear hb0 hb1 hb2 c0 c1 hB hbel
  have hn := last_block0 w1 (.cells (wideA false (fun _ => 0)) 40) w1.heap.size rfl
  go_upto_region 7 with (refine wpList_store_row rfl _ _ _ rfl _ _ rfl rfl _ _ hn (wide_info _ _) (wideA_sz _ _ _ _) (wideA_one _ _) ?_)
  generalize hW : World.setRow _ _ _ = V2
  have hd0 : V2.heap[w.heap.size]? = some (.cells (wideA false (dg va)) 40 (0, 0)) := by rw [← hW, setRow_other _ _ _ _ (by omega)]; exact blk_alloc hz0 _
  have hd1 : V2.heap[w.heap.size + 1]? = some (.cells (wideA true (dg vb)) 40 (0, 0)) := by rw [← hW, setRow_other _ _ _ _ (by omega)]; exact blk_alloc hz1 _
  have hd2 : V2.heap[w.heap.size + 2]? = some (.cells (wideA false (fun _ => 0)) 40 (0, 0)) := by rw [← hW, setRow_other _ _ _ _ (by omega)]; exact blk_alloc hz2 _
  have hd3 : V2.heap[w1.heap.size]? = some (.cells (wideA true (dg (vb - va))) 40 (0, 0)) := by rw [← hW]; exact setRow_heap _ _ _ _ _ _ hn
  have hvel : Below w.heap.size w V2 := by rw [← hW]; exact below_setRow (hbel1.alloc (by omega) _) (by omega) _
  clear hW hn hz0 hz1 hz2 hbel1
  have c0 : V2.cell? ⟨w.heap.size + 1, 0, none⟩ = some (.bool true) := by rw [cell_of_block hd1]; exact wideA_get0 _ _
  have c3 : V2.cell? ⟨w1.heap.size, 0, none⟩ = some (.bool true) := by rw [cell_of_block hd3]; exact wideA_get0 _ _
  have f3 : V2.frozen? ⟨w1.heap.size, 0, none⟩ = false := frozen_blk hd3
  go_upto_region 8 with (fail)
  generalize hW : V2.setCell _ _ = X
  have he2 : X.heap[w.heap.size + 2]? = some (.cells (wideA false (fun _ => 0)) 40 (0, 0)) := by rw [← hW]; exact blk_set_other hd2 (by omega) _ _
  have he3 : X.heap[w1.heap.size]? = some (.cells (wideA true (dg (vb - va))) 40 (0, 0)) := by rw [← hW, blk_set hd3, wideA_set0]
  have hxel : Below w.heap.size w X := by rw [← hW]; exact hvel.setCell (by simp; omega) _
  clear hW hd0 hd1 hd2 hd3 c0 c3 f3 hvel
  go_wp2_with (first | (refine wpList_load_row rfl _ _ rfl _ rfl _ _ _ _ he3 Try.underlying40 rfl (wide_info _ _) ?_) | (refine wpList_store_row rfl _ _ _ rfl _ _ rfl rfl _ _ he2 (wide_info _ _) (wideA_sz _ _ _ _) (wideA_one _ _) ?_))
  refine bodyPost_ret (v := .agg (wideA true (dg (vb - va)))) (results_cell_row rfl _ _ (w.heap.size + 2) 40 (wideA true (dg (vb - va))) (0, 0) _ rfl ?_ Try.underlying40 rfl (wide_info _ _)) rfl ?_
  · exact setRow_heap _ _ _ _ _ _ he2
  · exact ⟨rfl, below_setRow hxel (by omega) _⟩

set_option maxHeartbeats 1000000 in
theorem r_Plus_ft_ge (va vb : Nat) (w : World) (ha : va < 65536 ^ 9) (hb : vb < 65536 ^ 9) (hlt : vb ≤ va) :
    Calls Try.prog 34 #[.agg (wideA false (dg va)), .agg (wideA true (dg vb))] w (WidePost w false (va - vb)) := by
  have hz := zeroWide
  have hah := hide ha
  have hbh := hide hb
  have hlth := hide hlt
  clear ha hb hlt
  go_enter Try.func34, Try.ntmps34
  go_upto_region 1 with (fail)
  generalize hW : ((w.alloc (Obj.cells (wideA false (dg va)) 40)).alloc (Obj.cells (wideA true (dg vb)) 40)).alloc (Obj.cells (wideA false fun _ => 0) 40) = W
  have hb0 : W.heap[w.heap.size]? = some (.cells (wideA false (dg va)) 40 (0, 0)) := by rw [← hW]; exact blk_alloc (blk_alloc (last_block0 _ _ _ rfl) _) _
  have hb1 : W.heap[w.heap.size + 1]? = some (.cells (wideA true (dg vb)) 40 (0, 0)) := by rw [← hW]; exact blk_alloc (last_block0 _ _ _ (by simp)) _
  have hb2 : W.heap[w.heap.size + 2]? = some (.cells (wideA false (fun _ => 0)) 40 (0, 0)) := by rw [← hW]; exact last_block0 _ _ _ (by simp)
  have hbel : Below w.heap.size w W := by rw [← hW]; exact (((Below.refl _ _).alloc (Nat.le_refl _) _).alloc (by simp) _).alloc (by simp; omega) _
  have hsz : w.heap.size + 3 = W.heap.size := by rw [← hW]; simp
  clear hW
  have hszh := hide hsz
  have hle : w.heap.size + 3 ≤ W.heap.size := Nat.le_of_eq hsz
  clear hsz
  have c0 : W.cell? ⟨w.heap.size, 0, none⟩ = some (.bool false) := by rw [cell_of_block hb0]; exact wideA_get0 _ _
  have c1 : W.cell? ⟨w.heap.size + 1, 0, none⟩ = some (.bool true) := by rw [cell_of_block hb1]; exact wideA_get0 _ _
  go_upto_region 5 with (fail)
  go_wp2_with (first | (refine wpList_load_row rfl _ _ rfl _ rfl _ _ _ _ hb0 Try.underlying40 rfl (wide_info _ _) ?_) | (refine wpList_load_row rfl _ _ rfl _ rfl _ _ _ _ hb1 Try.underlying40 rfl (wide_info _ _) ?_))
  refine (r_less false true va vb W hah.out hbh.out).mono ?_
  rintro e V ⟨rfl, hB⟩
  rw [decide_eq_false (Nat.not_lt.2 hlth.out)]
  have hk0 : V.heap[w.heap.size]? = some (.cells (wideA false (dg va)) 40 (0, 0)) := (hB.block _ (by omega)).trans hb0
  have hk1 : V.heap[w.heap.size + 1]? = some (.cells (wideA true (dg vb)) 40 (0, 0)) := (hB.block _ (by omega)).trans hb1
  have hk2 : V.heap[w.heap.size + 2]? = some (.cells (wideA false (fun _ => 0)) 40 (0, 0)) := (hB.block _ (by omega)).trans hb2
  have hkle : w.heap.size + 3 ≤ V.heap.size := Nat.le_trans hle hB.size
  have hkel : Below w.heap.size w V := hbel.trans (hB.mono (by omega))
  clear hb0 hb1 hb2 c0 c1 hB hbel hle hszh
  have hb0 := hk0
  have hb1 := hk1
  have hb2 := hk2
  have hbel := hkel
  have hle := hkle
  have c0 : True := trivial
  have c1 : True := trivial
  clear hk0 hk1 hk2 hkel hkle
  go_wp2_with (first | (refine wpList_load_row rfl _ _ rfl _ rfl _ _ _ _ hb0 Try.underlying40 rfl (wide_info _ _) ?_) | (refine wpList_load_row rfl _ _ rfl _ rfl _ _ _ _ hb1 Try.underlying40 rfl (wide_info _ _) ?_))
  refine (r_minus false true va vb V hlth.out).mono ?_
  rintro e w1 ⟨rfl, hB⟩
  have hz0 : w1.heap[w.heap.size]? = some (.cells (wideA false (dg va)) 40 (0, 0)) := (hB.block _ (by omega)).trans hb0
  have hz1 : w1.heap[w.heap.size + 1]? = some (.cells (wideA true (dg vb)) 40 (0, 0)) := (hB.block _ (by omega)).trans hb1
  have hz2 : w1.heap[w.heap.size + 2]? = some (.cells (wideA false (fun _ => 0)) 40 (0, 0)) := (hB.block _ (by omega)).trans hb2
  have hle1 : w.heap.size + 3 ≤ w1.heap.size := Nat.le_trans hle hB.size
  have hbel1 : Below w.heap.size w w1 := hbel.trans (hB.mono (by omega))
  clear hb0 hb1 hb2 c0 c1 hB hbel
  have hn := last_block0 w1 (.cells (wideA false (fun _ => 0)) 40) w1.heap.size rfl
  go_upto_region 10 with (refine wpList_store_row rfl _ _ _ rfl _ _ rfl rfl _ _ hn (wide_info _ _) (wideA_sz _ _ _ _) (wideA_one _ _) ?_)
  generalize hW : World.setRow _ _ _ = V2
  have hd0 : V2.heap[w.heap.size]? = some (.cells (wideA false (dg va)) 40 (0, 0)) := by rw [← hW, setRow_other _ _ _ _ (by omega)]; exact blk_alloc hz0 _
  have hd1 : V2.heap[w.heap.size + 1]? = some (.cells (wideA true (dg vb)) 40 (0, 0)) := by rw [← hW, setRow_other _ _ _ _ (by omega)]; exact blk_alloc hz1 _
  have hd2 : V2.heap[w.heap.size + 2]? = some (.cells (wideA false (fun _ => 0)) 40 (0, 0)) := by rw [← hW, setRow_other _ _ _ _ (by omega)]; exact blk_alloc hz2 _
  have hd3 : V2.heap[w1.heap.size]? = some (.cells (wideA false (dg (va - vb))) 40 (0, 0)) := by rw [← hW]; exact setRow_heap _ _ _ _ _ _ hn
  have hvel : Below w.heap.size w V2 := by rw [← hW]; exact below_setRow (hbel1.alloc (by omega) _) (by omega) _
  clear hW hn hz0 hz1 hz2 hbel1
  have c0 : V2.cell? ⟨w.heap.size, 0, none⟩ = some (.bool false) := by rw [cell_of_block hd0]; exact wideA_get0 _ _
  have c3 : V2.cell? ⟨w1.heap.size, 0, none⟩ = some (.bool false) := by rw [cell_of_block hd3]; exact wideA_get0 _ _
  have f3 : V2.frozen? ⟨w1.heap.size, 0, none⟩ = false := frozen_blk hd3
  go_upto_region 11 with (fail)
  generalize hW : V2.setCell _ _ = X
  have he2 : X.heap[w.heap.size + 2]? = some (.cells (wideA false (fun _ => 0)) 40 (0, 0)) := by rw [← hW]; exact blk_set_other hd2 (by omega) _ _
  have he3 : X.heap[w1.heap.size]? = some (.cells (wideA false (dg (va - vb))) 40 (0, 0)) := by rw [← hW, blk_set hd3, wideA_set0]
  have hxel : Below w.heap.size w X := by rw [← hW]; exact hvel.setCell (by simp; omega) _
  clear hW hd0 hd1 hd2 hd3 c0 c3 f3 hvel
  go_wp2_with (first | (refine wpList_load_row rfl _ _ rfl _ rfl _ _ _ _ he3 Try.underlying40 rfl (wide_info _ _) ?_) | (refine wpList_store_row rfl _ _ _ rfl _ _ rfl rfl _ _ he2 (wide_info _ _) (wideA_sz _ _ _ _) (wideA_one _ _) ?_))
  refine bodyPost_ret (v := .agg (wideA false (dg (va - vb)))) (results_cell_row rfl _ _ (w.heap.size + 2) 40 (wideA false (dg (va - vb))) (0, 0) _ rfl ?_ Try.underlying40 rfl (wide_info _ _)) rfl ?_
  · exact setRow_heap _ _ _ _ _ _ he2
  · exact ⟨rfl, below_setRow hxel (by omega) _⟩

end Go.Proofs.Ytangfbahljdbhaa

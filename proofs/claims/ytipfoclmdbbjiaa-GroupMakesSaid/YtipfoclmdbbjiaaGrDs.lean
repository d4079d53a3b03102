import Derived.Test.YtipfoclmdbbjiaaGrDg
import Derived.Test.YtipfoclmdbbjiaaGrSame2
/- The document's Datagram and Same. Conditions: what the rows read as. -/
namespace Go.Proofs.Ytipfoclmdbbjiaa
open Go.RowKit
set_option maxRecDepth 100000 in
theorem int_eqb (x : Int) : (x == x) = true := by simp
attribute [local irreducible] gexp gtbl glog rmul rinv rpow zexp mixF blk wLoad wLoadRes loadAns wStore wStoreRes storeAns Plain flF MRow MAt IsGf ivS rsF mlF RowsAt paF OwnS SlR dtF inV grD
attribute [local go_sem ↓] ld_d0 sto_d0 ld_g0 sto_g0 ld_w0 sto_w0
attribute [local go_sem] ld_d sto_d ld_g sto_g ld_w sto_w loadAns_some storeAns_some gg_size gg_plain dg_size dg_plain blk_alloc_if blk_setRow_if blk_drew_at blk_drewN_at rowPut_some blk_setCell_if cellPut_some
set_option maxRecDepth 100000 in
set_option maxHeartbeats 4000000 in
theorem r_same07 (x0 x1 x2 x3 x4 x5 x6 x7 x8 x9 : Int) (s t : Option Addr) (cs ct : Nat) (f : Nat → Nat) (w : World) (hs : By w s 2 f) (ht : By w t 2 f) :
    Calls Try.prog 25 #[.agg #[.int .i64 x0, .int .u32 x1, .int .u32 x2, .int .i64 x3, .int .u32 x4, .int .u32 x5, .int .u32 x6, .int .i64 x7, .int .i64 x8, .int .i64 x9, .slice s 2 cs], .agg #[.int .i64 x0, .int .u32 x1, .int .u32 x2, .int .i64 x3, .int .u32 x4, .int .u32 x5, .int .u32 x6, .int .i64 x7, .int .i64 x8, .int .i64 x9, .slice t 2 ct]] w (Ret w (.bool true)) := by
  obtain ⟨h0, h1, hsz, hB⟩ := two_allocs w (.cells #[.int .i64 x0, .int .u32 x1, .int .u32 x2, .int .i64 x3, .int .u32 x4, .int .u32 x5, .int .u32 x6, .int .i64 x7, .int .i64 x8, .int .i64 x9, .slice s 2 cs] 71) (.cells #[.int .i64 x0, .int .u32 x1, .int .u32 x2, .int .i64 x3, .int .u32 x4, .int .u32 x5, .int .u32 x6, .int .i64 x7, .int .i64 x8, .int .i64 x9, .slice t 2 ct] 71)
  go_enter Try.func25, Try.ntmps25
  have kS := Lib.hid (r_sameB s t cs ct 2 f _ (hs.below hB) (ht.below hB) (by omega))
  have e0 := int_eqb x0
  have e1 := int_eqb x1
  have e2 := int_eqb x2
  have e3 := int_eqb x3
  have e4 := int_eqb x4
  have e5 := int_eqb x5
  have e6 := int_eqb x6
  have e7 := int_eqb x7
  have e8 := int_eqb x8
  have e9 := int_eqb x9
  have a0 := (cell_of_block h0).trans (show #[.int .i64 x0, .int .u32 x1, .int .u32 x2, .int .i64 x3, .int .u32 x4, .int .u32 x5, .int .u32 x6, .int .i64 x7, .int .i64 x8, .int .i64 x9, .slice s 2 cs][0]? = some (Value.int .i64 x0) from rfl)
  have b0 := (cell_of_block h1).trans (show #[.int .i64 x0, .int .u32 x1, .int .u32 x2, .int .i64 x3, .int .u32 x4, .int .u32 x5, .int .u32 x6, .int .i64 x7, .int .i64 x8, .int .i64 x9, .slice t 2 ct][0]? = some (Value.int .i64 x0) from rfl)
  have a1 := (cell_of_block h0).trans (show #[.int .i64 x0, .int .u32 x1, .int .u32 x2, .int .i64 x3, .int .u32 x4, .int .u32 x5, .int .u32 x6, .int .i64 x7, .int .i64 x8, .int .i64 x9, .slice s 2 cs][1]? = some (Value.int .u32 x1) from rfl)
  have b1 := (cell_of_block h1).trans (show #[.int .i64 x0, .int .u32 x1, .int .u32 x2, .int .i64 x3, .int .u32 x4, .int .u32 x5, .int .u32 x6, .int .i64 x7, .int .i64 x8, .int .i64 x9, .slice t 2 ct][1]? = some (Value.int .u32 x1) from rfl)
  have a2 := (cell_of_block h0).trans (show #[.int .i64 x0, .int .u32 x1, .int .u32 x2, .int .i64 x3, .int .u32 x4, .int .u32 x5, .int .u32 x6, .int .i64 x7, .int .i64 x8, .int .i64 x9, .slice s 2 cs][2]? = some (Value.int .u32 x2) from rfl)
  have b2 := (cell_of_block h1).trans (show #[.int .i64 x0, .int .u32 x1, .int .u32 x2, .int .i64 x3, .int .u32 x4, .int .u32 x5, .int .u32 x6, .int .i64 x7, .int .i64 x8, .int .i64 x9, .slice t 2 ct][2]? = some (Value.int .u32 x2) from rfl)
  have a3 := (cell_of_block h0).trans (show #[.int .i64 x0, .int .u32 x1, .int .u32 x2, .int .i64 x3, .int .u32 x4, .int .u32 x5, .int .u32 x6, .int .i64 x7, .int .i64 x8, .int .i64 x9, .slice s 2 cs][3]? = some (Value.int .i64 x3) from rfl)
  have b3 := (cell_of_block h1).trans (show #[.int .i64 x0, .int .u32 x1, .int .u32 x2, .int .i64 x3, .int .u32 x4, .int .u32 x5, .int .u32 x6, .int .i64 x7, .int .i64 x8, .int .i64 x9, .slice t 2 ct][3]? = some (Value.int .i64 x3) from rfl)
  have a4 := (cell_of_block h0).trans (show #[.int .i64 x0, .int .u32 x1, .int .u32 x2, .int .i64 x3, .int .u32 x4, .int .u32 x5, .int .u32 x6, .int .i64 x7, .int .i64 x8, .int .i64 x9, .slice s 2 cs][4]? = some (Value.int .u32 x4) from rfl)
  have b4 := (cell_of_block h1).trans (show #[.int .i64 x0, .int .u32 x1, .int .u32 x2, .int .i64 x3, .int .u32 x4, .int .u32 x5, .int .u32 x6, .int .i64 x7, .int .i64 x8, .int .i64 x9, .slice t 2 ct][4]? = some (Value.int .u32 x4) from rfl)
  have a5 := (cell_of_block h0).trans (show #[.int .i64 x0, .int .u32 x1, .int .u32 x2, .int .i64 x3, .int .u32 x4, .int .u32 x5, .int .u32 x6, .int .i64 x7, .int .i64 x8, .int .i64 x9, .slice s 2 cs][5]? = some (Value.int .u32 x5) from rfl)
  have b5 := (cell_of_block h1).trans (show #[.int .i64 x0, .int .u32 x1, .int .u32 x2, .int .i64 x3, .int .u32 x4, .int .u32 x5, .int .u32 x6, .int .i64 x7, .int .i64 x8, .int .i64 x9, .slice t 2 ct][5]? = some (Value.int .u32 x5) from rfl)
  have a6 := (cell_of_block h0).trans (show #[.int .i64 x0, .int .u32 x1, .int .u32 x2, .int .i64 x3, .int .u32 x4, .int .u32 x5, .int .u32 x6, .int .i64 x7, .int .i64 x8, .int .i64 x9, .slice s 2 cs][6]? = some (Value.int .u32 x6) from rfl)
  have b6 := (cell_of_block h1).trans (show #[.int .i64 x0, .int .u32 x1, .int .u32 x2, .int .i64 x3, .int .u32 x4, .int .u32 x5, .int .u32 x6, .int .i64 x7, .int .i64 x8, .int .i64 x9, .slice t 2 ct][6]? = some (Value.int .u32 x6) from rfl)
  have a7 := (cell_of_block h0).trans (show #[.int .i64 x0, .int .u32 x1, .int .u32 x2, .int .i64 x3, .int .u32 x4, .int .u32 x5, .int .u32 x6, .int .i64 x7, .int .i64 x8, .int .i64 x9, .slice s 2 cs][7]? = some (Value.int .i64 x7) from rfl)
  have b7 := (cell_of_block h1).trans (show #[.int .i64 x0, .int .u32 x1, .int .u32 x2, .int .i64 x3, .int .u32 x4, .int .u32 x5, .int .u32 x6, .int .i64 x7, .int .i64 x8, .int .i64 x9, .slice t 2 ct][7]? = some (Value.int .i64 x7) from rfl)
  have a8 := (cell_of_block h0).trans (show #[.int .i64 x0, .int .u32 x1, .int .u32 x2, .int .i64 x3, .int .u32 x4, .int .u32 x5, .int .u32 x6, .int .i64 x7, .int .i64 x8, .int .i64 x9, .slice s 2 cs][8]? = some (Value.int .i64 x8) from rfl)
  have b8 := (cell_of_block h1).trans (show #[.int .i64 x0, .int .u32 x1, .int .u32 x2, .int .i64 x3, .int .u32 x4, .int .u32 x5, .int .u32 x6, .int .i64 x7, .int .i64 x8, .int .i64 x9, .slice t 2 ct][8]? = some (Value.int .i64 x8) from rfl)
  have a9 := (cell_of_block h0).trans (show #[.int .i64 x0, .int .u32 x1, .int .u32 x2, .int .i64 x3, .int .u32 x4, .int .u32 x5, .int .u32 x6, .int .i64 x7, .int .i64 x8, .int .i64 x9, .slice s 2 cs][9]? = some (Value.int .i64 x9) from rfl)
  have b9 := (cell_of_block h1).trans (show #[.int .i64 x0, .int .u32 x1, .int .u32 x2, .int .i64 x3, .int .u32 x4, .int .u32 x5, .int .u32 x6, .int .i64 x7, .int .i64 x8, .int .i64 x9, .slice t 2 ct][9]? = some (Value.int .i64 x9) from rfl)
  have a10 := (cell_of_block h0).trans (show #[.int .i64 x0, .int .u32 x1, .int .u32 x2, .int .i64 x3, .int .u32 x4, .int .u32 x5, .int .u32 x6, .int .i64 x7, .int .i64 x8, .int .i64 x9, .slice s 2 cs][10]? = some (Value.slice s 2 cs) from rfl)
  have b10 := (cell_of_block h1).trans (show #[.int .i64 x0, .int .u32 x1, .int .u32 x2, .int .i64 x3, .int .u32 x4, .int .u32 x5, .int .u32 x6, .int .i64 x7, .int .i64 x8, .int .i64 x9, .slice t 2 ct][10]? = some (Value.slice t 2 ct) from rfl)
  clear h0 h1 hs ht
  have hBh := Lib.hid hB
  clear hB
  go_wp2_with fail
  refine kS.out.mono ?_
  rintro e w' ⟨rfl, hb⟩
  have hbf := Lib.hid (hBh.out.trans (hb.mono (by omega)))
  clear hb
  go_wp2_with fail
  go_ret
  exact ⟨rfl, hbf.out⟩
set_option maxRecDepth 100000 in
set_option maxHeartbeats 4000000 in
theorem r_datagram (no fi : Int) (K m i L sb so cap rg rc : Nat) (w : World) (hi : i < L) (hrow : w.cell? ⟨sb, so + i, none⟩ = some (.slice (some ⟨rg, 0, none⟩) 2 rc)) :
    Calls Try.prog 26 #[.agg #[.int .u32 no, .int .u32 fi, .int .i64 (K : Nat), .int .i64 (m : Nat), .slice (some ⟨sb, so, none⟩) L cap], .int .i64 (i : Nat)] w (Ret w (.agg #[.int .i64 (dgK K i), .int .u32 0, .int .u32 0, .int .i64 0, .int .u32 0, .int .u32 no, .int .u32 fi, .int .i64 (K : Nat), .int .i64 (m : Nat), .int .i64 (i : Nat), .slice (some ⟨rg, 0, none⟩) 2 rc])) := by
  have hz := zeroDG
  obtain ⟨h0, h1, hs, hB⟩ := two_allocs w (.cells #[.int .u32 no, .int .u32 fi, .int .i64 (K : Nat), .int .i64 (m : Nat), .slice (some ⟨sb, so, none⟩) L cap] 44) (.cells #[.int .i64 0, .int .u32 0, .int .u32 0, .int .i64 0, .int .u32 0, .int .u32 0, .int .u32 0, .int .i64 0, .int .i64 0, .int .i64 0, .slice none 0 0] 71)
  have i1 : (i : Int) < (L : Int) := by omega
  go_enter Try.func26, Try.ntmps26
  go_upto_region 1 with (fail)
  generalize World.alloc (World.alloc w _) _ = W at *
  have h0h := Lib.hid h0
  have h1h := Lib.hid h1
  have hBh := Lib.hid hB
  have hsh := Lib.hid hs
  have hrW := Lib.hid ((hB.cell (p := ⟨sb, so + i, none⟩) (cell_block_lt hrow)).trans hrow)
  have c0 := (cell_of_block h0).trans (show #[.int .u32 no, .int .u32 fi, .int .i64 (K : Nat), .int .i64 (m : Nat), .slice (some ⟨sb, so, none⟩) L cap][0]? = some (Value.int .u32 no) from rfl)
  have c1 := (cell_of_block h0).trans (show #[.int .u32 no, .int .u32 fi, .int .i64 (K : Nat), .int .i64 (m : Nat), .slice (some ⟨sb, so, none⟩) L cap][1]? = some (Value.int .u32 fi) from rfl)
  have c2 := (cell_of_block h0).trans (show #[.int .u32 no, .int .u32 fi, .int .i64 (K : Nat), .int .i64 (m : Nat), .slice (some ⟨sb, so, none⟩) L cap][2]? = some (Value.int .i64 (K : Nat)) from rfl)
  have c3 := (cell_of_block h0).trans (show #[.int .u32 no, .int .u32 fi, .int .i64 (K : Nat), .int .i64 (m : Nat), .slice (some ⟨sb, so, none⟩) L cap][3]? = some (Value.int .i64 (m : Nat)) from rfl)
  have c4 := (cell_of_block h0).trans (show #[.int .u32 no, .int .u32 fi, .int .i64 (K : Nat), .int .i64 (m : Nat), .slice (some ⟨sb, so, none⟩) L cap][4]? = some (Value.slice (some ⟨sb, so, none⟩) L cap) from rfl)
  have hS : Hid (∀ y, Below W.heap.size W y → (fun y : World => y.cell? ⟨w.heap.size, 0, none⟩ = some (.int .u32 no) ∧ y.cell? ⟨w.heap.size, 1, none⟩ = some (.int .u32 fi) ∧ y.cell? ⟨w.heap.size, 2, none⟩ = some (.int .i64 (K : Nat)) ∧ y.cell? ⟨w.heap.size, 3, none⟩ = some (.int .i64 (m : Nat)) ∧ y.cell? ⟨w.heap.size, 4, none⟩ = some (.slice (some ⟨sb, so, none⟩) L cap) ∧ y.cell? ⟨sb, so + i, none⟩ = some (.slice (some ⟨rg, 0, none⟩) 2 rc)) y) := hide (fun y hy =>
    ⟨(hy.cell (cell_block_lt c0)).trans c0, (hy.cell (cell_block_lt c1)).trans c1, (hy.cell (cell_block_lt c2)).trans c2, (hy.cell (cell_block_lt c3)).trans c3, (hy.cell (cell_block_lt c4)).trans c4, (hy.cell (cell_block_lt hrW.out)).trans hrW.out⟩)
  clear h0 h1 hB hs hrow c0 c1 c2 c3 c4
  have hD : Hid (Below W.heap.size W W.drew) := hide (below_drewN (Below.refl _ _) 1)
  have hHeld := hS.out _ hD.out
  refine h_begin 17 (fun y : World => y.cell? ⟨w.heap.size, 0, none⟩ = some (.int .u32 no) ∧ y.cell? ⟨w.heap.size, 1, none⟩ = some (.int .u32 fi) ∧ y.cell? ⟨w.heap.size, 2, none⟩ = some (.int .i64 (K : Nat)) ∧ y.cell? ⟨w.heap.size, 3, none⟩ = some (.int .i64 (m : Nat)) ∧ y.cell? ⟨w.heap.size, 4, none⟩ = some (.slice (some ⟨sb, so, none⟩) L cap) ∧ y.cell? ⟨sb, so + i, none⟩ = some (.slice (some ⟨rg, 0, none⟩) 2 rc)) rfl (by kernel_rfl) hHeld ?_
  first
    | (refine h_run (i := 0) (v := ?_) hHeld rfl (by kernel_rfl) (by kernel_rfl) (by kernel_rfl) ?_ ?_ ?_
       rotate_left
       · rfl
       · (intro x hSx; (try dsimp only at hSx); go_simp <;> with_reducible rfl)
       simp only [Act.put, List.setIfInBounds_toArray, List.set_cons_zero, List.set_cons_succ])
    | (refine h_skip (i := 0) hHeld rfl (by kernel_rfl) (by kernel_rfl) (by kernel_rfl) ?_ ?_
       · rfl
       simp only [Act.put, List.setIfInBounds_toArray, List.set_cons_zero, List.set_cons_succ])
  first
    | (refine h_run (i := 1) (v := ?_) hHeld rfl (by kernel_rfl) (by kernel_rfl) (by kernel_rfl) ?_ ?_ ?_
       rotate_left
       · rfl
       · (intro x hSx; (try dsimp only at hSx); go_simp <;> with_reducible rfl)
       simp only [Act.put, List.setIfInBounds_toArray, List.set_cons_zero, List.set_cons_succ])
    | (refine h_skip (i := 1) hHeld rfl (by kernel_rfl) (by kernel_rfl) (by kernel_rfl) ?_ ?_
       · rfl
       simp only [Act.put, List.setIfInBounds_toArray, List.set_cons_zero, List.set_cons_succ])
  first
    | (refine h_run (i := 2) (v := ?_) hHeld rfl (by kernel_rfl) (by kernel_rfl) (by kernel_rfl) ?_ ?_ ?_
       rotate_left
       · rfl
       · (intro x hSx; (try dsimp only at hSx); go_simp <;> with_reducible rfl)
       simp only [Act.put, List.setIfInBounds_toArray, List.set_cons_zero, List.set_cons_succ])
    | (refine h_skip (i := 2) hHeld rfl (by kernel_rfl) (by kernel_rfl) (by kernel_rfl) ?_ ?_
       · rfl
       simp only [Act.put, List.setIfInBounds_toArray, List.set_cons_zero, List.set_cons_succ])
  first
    | (refine h_run (i := 3) (v := ?_) hHeld rfl (by kernel_rfl) (by kernel_rfl) (by kernel_rfl) ?_ ?_ ?_
       rotate_left
       · rfl
       · (intro x hSx; (try dsimp only at hSx); go_simp <;> with_reducible rfl)
       simp only [Act.put, List.setIfInBounds_toArray, List.set_cons_zero, List.set_cons_succ])
    | (refine h_skip (i := 3) hHeld rfl (by kernel_rfl) (by kernel_rfl) (by kernel_rfl) ?_ ?_
       · rfl
       simp only [Act.put, List.setIfInBounds_toArray, List.set_cons_zero, List.set_cons_succ])
  first
    | (refine h_run (i := 4) (v := ?_) hHeld rfl (by kernel_rfl) (by kernel_rfl) (by kernel_rfl) ?_ ?_ ?_
       rotate_left
       · rfl
       · (intro x hSx; (try dsimp only at hSx); go_simp <;> with_reducible rfl)
       simp only [Act.put, List.setIfInBounds_toArray, List.set_cons_zero, List.set_cons_succ])
    | (refine h_skip (i := 4) hHeld rfl (by kernel_rfl) (by kernel_rfl) (by kernel_rfl) ?_ ?_
       · rfl
       simp only [Act.put, List.setIfInBounds_toArray, List.set_cons_zero, List.set_cons_succ])
  first
    | (refine h_run (i := 5) (v := ?_) hHeld rfl (by kernel_rfl) (by kernel_rfl) (by kernel_rfl) ?_ ?_ ?_
       rotate_left
       · rfl
       · (intro x hSx; (try dsimp only at hSx); go_simp <;> with_reducible rfl)
       simp only [Act.put, List.setIfInBounds_toArray, List.set_cons_zero, List.set_cons_succ])
    | (refine h_skip (i := 5) hHeld rfl (by kernel_rfl) (by kernel_rfl) (by kernel_rfl) ?_ ?_
       · rfl
       simp only [Act.put, List.setIfInBounds_toArray, List.set_cons_zero, List.set_cons_succ])
  first
    | (refine h_run (i := 6) (v := ?_) hHeld rfl (by kernel_rfl) (by kernel_rfl) (by kernel_rfl) ?_ ?_ ?_
       rotate_left
       · rfl
       · (intro x hSx; (try dsimp only at hSx); go_simp <;> with_reducible rfl)
       simp only [Act.put, List.setIfInBounds_toArray, List.set_cons_zero, List.set_cons_succ])
    | (refine h_skip (i := 6) hHeld rfl (by kernel_rfl) (by kernel_rfl) (by kernel_rfl) ?_ ?_
       · rfl
       simp only [Act.put, List.setIfInBounds_toArray, List.set_cons_zero, List.set_cons_succ])
  first
    | (refine h_run (i := 7) (v := ?_) hHeld rfl (by kernel_rfl) (by kernel_rfl) (by kernel_rfl) ?_ ?_ ?_
       rotate_left
       · rfl
       · (intro x hSx; (try dsimp only at hSx); go_simp <;> with_reducible rfl)
       simp only [Act.put, List.setIfInBounds_toArray, List.set_cons_zero, List.set_cons_succ])
    | (refine h_skip (i := 7) hHeld rfl (by kernel_rfl) (by kernel_rfl) (by kernel_rfl) ?_ ?_
       · rfl
       simp only [Act.put, List.setIfInBounds_toArray, List.set_cons_zero, List.set_cons_succ])
  first
    | (refine h_run (i := 8) (v := ?_) hHeld rfl (by kernel_rfl) (by kernel_rfl) (by kernel_rfl) ?_ ?_ ?_
       rotate_left
       · rfl
       · (intro x hSx; (try dsimp only at hSx); go_simp <;> with_reducible rfl)
       simp only [Act.put, List.setIfInBounds_toArray, List.set_cons_zero, List.set_cons_succ])
    | (refine h_skip (i := 8) hHeld rfl (by kernel_rfl) (by kernel_rfl) (by kernel_rfl) ?_ ?_
       · rfl
       simp only [Act.put, List.setIfInBounds_toArray, List.set_cons_zero, List.set_cons_succ])
  first
    | (refine h_run (i := 9) (v := ?_) hHeld rfl (by kernel_rfl) (by kernel_rfl) (by kernel_rfl) ?_ ?_ ?_
       rotate_left
       · rfl
       · (intro x hSx; (try dsimp only at hSx); go_simp <;> with_reducible rfl)
       simp only [Act.put, List.setIfInBounds_toArray, List.set_cons_zero, List.set_cons_succ])
    | (refine h_skip (i := 9) hHeld rfl (by kernel_rfl) (by kernel_rfl) (by kernel_rfl) ?_ ?_
       · rfl
       simp only [Act.put, List.setIfInBounds_toArray, List.set_cons_zero, List.set_cons_succ])
  first
    | (refine h_run (i := 10) (v := ?_) hHeld rfl (by kernel_rfl) (by kernel_rfl) (by kernel_rfl) ?_ ?_ ?_
       rotate_left
       · rfl
       · (intro x hSx; (try dsimp only at hSx); go_simp <;> with_reducible rfl)
       simp only [Act.put, List.setIfInBounds_toArray, List.set_cons_zero, List.set_cons_succ])
    | (refine h_skip (i := 10) hHeld rfl (by kernel_rfl) (by kernel_rfl) (by kernel_rfl) ?_ ?_
       · rfl
       simp only [Act.put, List.setIfInBounds_toArray, List.set_cons_zero, List.set_cons_succ])
  first
    | (refine h_run (i := 11) (v := ?_) hHeld rfl (by kernel_rfl) (by kernel_rfl) (by kernel_rfl) ?_ ?_ ?_
       rotate_left
       · rfl
       · (intro x hSx; (try dsimp only at hSx); go_simp <;> with_reducible rfl)
       simp only [Act.put, List.setIfInBounds_toArray, List.set_cons_zero, List.set_cons_succ])
    | (refine h_skip (i := 11) hHeld rfl (by kernel_rfl) (by kernel_rfl) (by kernel_rfl) ?_ ?_
       · rfl
       simp only [Act.put, List.setIfInBounds_toArray, List.set_cons_zero, List.set_cons_succ])
  first
    | (refine h_run (i := 12) (v := ?_) hHeld rfl (by kernel_rfl) (by kernel_rfl) (by kernel_rfl) ?_ ?_ ?_
       rotate_left
       · rfl
       · (intro x hSx; (try dsimp only at hSx); go_simp <;> with_reducible rfl)
       simp only [Act.put, List.setIfInBounds_toArray, List.set_cons_zero, List.set_cons_succ])
    | (refine h_skip (i := 12) hHeld rfl (by kernel_rfl) (by kernel_rfl) (by kernel_rfl) ?_ ?_
       · rfl
       simp only [Act.put, List.setIfInBounds_toArray, List.set_cons_zero, List.set_cons_succ])
  first
    | (refine h_run (i := 13) (v := ?_) hHeld rfl (by kernel_rfl) (by kernel_rfl) (by kernel_rfl) ?_ ?_ ?_
       rotate_left
       · rfl
       · (intro x hSx; (try dsimp only at hSx); go_simp <;> with_reducible rfl)
       simp only [Act.put, List.setIfInBounds_toArray, List.set_cons_zero, List.set_cons_succ])
    | (refine h_skip (i := 13) hHeld rfl (by kernel_rfl) (by kernel_rfl) (by kernel_rfl) ?_ ?_
       · rfl
       simp only [Act.put, List.setIfInBounds_toArray, List.set_cons_zero, List.set_cons_succ])
  first
    | (refine h_run (i := 14) (v := ?_) hHeld rfl (by kernel_rfl) (by kernel_rfl) (by kernel_rfl) ?_ ?_ ?_
       rotate_left
       · rfl
       · (intro x hSx; (try dsimp only at hSx); go_simp <;> with_reducible rfl)
       simp only [Act.put, List.setIfInBounds_toArray, List.set_cons_zero, List.set_cons_succ])
    | (refine h_skip (i := 14) hHeld rfl (by kernel_rfl) (by kernel_rfl) (by kernel_rfl) ?_ ?_
       · rfl
       simp only [Act.put, List.setIfInBounds_toArray, List.set_cons_zero, List.set_cons_succ])
  clear hHeld
  have hB5 := Lib.hid (hD.out.alloc hD.out.size (.cells #[.int .i64 0, .int .u32 0, .int .u32 0, .int .i64 0, .int .u32 0, .int .u32 0, .int .u32 0, .int .i64 0, .int .i64 0, .int .i64 0, .slice none 0 0] 71))
  refine h_value (i := 15) (v := .pointer (some ⟨W.drew.heap.size, 0, none⟩)) (w' := W.drew.alloc (.cells #[.int .i64 0, .int .u32 0, .int .u32 0, .int .i64 0, .int .u32 0, .int .u32 0, .int .u32 0, .int .i64 0, .int .i64 0, .int .i64 0, .slice none 0 0] 71)) (fun y : World => y.cell? ⟨w.heap.size, 0, none⟩ = some (.int .u32 no) ∧ y.cell? ⟨w.heap.size, 1, none⟩ = some (.int .u32 fi) ∧ y.cell? ⟨w.heap.size, 2, none⟩ = some (.int .i64 (K : Nat)) ∧ y.cell? ⟨w.heap.size, 3, none⟩ = some (.int .i64 (m : Nat)) ∧ y.cell? ⟨w.heap.size, 4, none⟩ = some (.slice (some ⟨sb, so, none⟩) L cap) ∧ y.cell? ⟨sb, so + i, none⟩ = some (.slice (some ⟨rg, 0, none⟩) 2 rc)) (fun _ h => h) rfl (by kernel_rfl) rfl ?_ (hS.out _ hB5.out) ?_
  · go_simp <;> with_reducible rfl
  simp only [Act.put, List.setIfInBounds_toArray, List.set_cons_zero, List.set_cons_succ]
  obtain ⟨y0, y1, y2⟩ := boxed W.drew #[.int .i64 0, .int .u32 0, .int .u32 0, .int .i64 0, .int .u32 0, .int .u32 0, .int .u32 0, .int .i64 0, .int .i64 0, .int .i64 0, .slice none 0 0] #[.int .i64 2, .int .u32 0, .int .u32 0, .int .i64 0, .int .u32 0, .int .u32 no, .int .u32 fi, .int .i64 (K : Nat), .int .i64 (m : Nat), .int .i64 (i : Nat), .slice (some ⟨rg, 0, none⟩) 2 rc] 71
  have hB6 : Hid (Below W.heap.size W ((W.drew.alloc (.cells #[.int .i64 0, .int .u32 0, .int .u32 0, .int .i64 0, .int .u32 0, .int .u32 0, .int .u32 0, .int .i64 0, .int .i64 0, .int .i64 0, .slice none 0 0] 71)).setRow W.drew.heap.size #[.int .i64 2, .int .u32 0, .int .u32 0, .int .i64 0, .int .u32 0, .int .u32 no, .int .u32 fi, .int .i64 (K : Nat), .int .i64 (m : Nat), .int .i64 (i : Nat), .slice (some ⟨rg, 0, none⟩) 2 rc])) := hide (hD.out.trans (y2.mono hD.out.size))
  refine h_write (i := 16) (w' := (W.drew.alloc (.cells #[.int .i64 0, .int .u32 0, .int .u32 0, .int .i64 0, .int .u32 0, .int .u32 0, .int .u32 0, .int .i64 0, .int .i64 0, .int .i64 0, .slice none 0 0] 71)).setRow W.drew.heap.size #[.int .i64 2, .int .u32 0, .int .u32 0, .int .i64 0, .int .u32 0, .int .u32 no, .int .u32 fi, .int .i64 (K : Nat), .int .i64 (m : Nat), .int .i64 (i : Nat), .slice (some ⟨rg, 0, none⟩) 2 rc]) (fun y : World => y.cell? ⟨w.heap.size, 0, none⟩ = some (.int .u32 no) ∧ y.cell? ⟨w.heap.size, 1, none⟩ = some (.int .u32 fi) ∧ y.cell? ⟨w.heap.size, 2, none⟩ = some (.int .i64 (K : Nat)) ∧ y.cell? ⟨w.heap.size, 3, none⟩ = some (.int .i64 (m : Nat)) ∧ y.cell? ⟨w.heap.size, 4, none⟩ = some (.slice (some ⟨sb, so, none⟩) L cap) ∧ y.cell? ⟨sb, so + i, none⟩ = some (.slice (some ⟨rg, 0, none⟩) 2 rc)) (fun _ h => h) rfl (by kernel_rfl) rfl ?_ (hS.out _ hB6.out) ?_
  · have hx := blk_of (last_block0 W.drew (.cells #[.int .i64 0, .int .u32 0, .int .u32 0, .int .i64 0, .int .u32 0, .int .u32 0, .int .u32 0, .int .i64 0, .int .i64 0, .int .i64 0, .slice none 0 0] 71) _ rfl)
    go_simp <;> with_reducible rfl
  refine h_done (by kernel_rfl) ?_
  have hdz : W.drew.heap.size = W.heap.size := rfl
  generalize World.setRow (World.alloc W.drew _) _ _ = Y at *
  obtain ⟨q, hq⟩ : ∃ q, W.drew.heap.size = q := ⟨_, rfl⟩
  have hqw : w.heap.size + 1 < q := by have := hsh.out; omega
  clear hdz
  have hc2 := (hS.out _ hB6.out).2.2.1
  have b4 := blk_of ((hB6.out.block (w.heap.size + 1) (by have := hsh.out; omega)).trans h1h.out)
  have hBY := Lib.hid (hBh.out.trans (hB6.out.mono (by have := hsh.out; omega)))
  rw [hq] at y0 ⊢
  have b5 := blk_of y0
  have hn1 : w.heap.size + 1 ≠ q := by omega
  have f0 := frozen_of_row Y q 0 _ _ y0
  have hc0 := (cell_of_block y0).trans (show #[.int .i64 2, .int .u32 0, .int .u32 0, .int .i64 0, .int .u32 0, .int .u32 no, .int .u32 fi, .int .i64 (K : Nat), .int .i64 (m : Nat), .int .i64 (i : Nat), .slice (some ⟨rg, 0, none⟩) 2 rc][0]? = some (Value.int .i64 2) from rfl)
  clear y0 y1 y2 hq
  obtain ⟨kd, hkd⟩ : ∃ kd, dgK K i = kd := ⟨_, rfl⟩
  rw [hkd]
  unfold dgK at hkd
  by_cases hk : K ≤ i
  · rw [if_pos hk] at hkd
    subst hkd
    have k1 : (K : Int) ≤ (i : Int) := by omega
    have hbf : Hid (∀ A, Below w.heap.size w ((Y.setCell ⟨q, 0, none⟩ (.int .i64 3)).setRow (w.heap.size + 1) A)) := hide (fun A => below_setRow (hBY.out.setCell (by show _ ≤ q; omega) _) (by omega) A)
    have b4h := Lib.hid (blk_heap b4)
    have hk4 : Hid ((Y.setCell ⟨q, 0, none⟩ (.int .i64 3)).heap[w.heap.size + 1]? = _) := hide ((heap_setCell_other Y ⟨q, 0, none⟩ (w.heap.size + 1) _ hn1).trans b4h.out)
    go_wp2_with fail
    refine bodyPost_ret (v := .agg #[.int .i64 3, .int .u32 0, .int .u32 0, .int .i64 0, .int .u32 0, .int .u32 no, .int .u32 fi, .int .i64 (K : Nat), .int .i64 (m : Nat), .int .i64 (i : Nat), .slice (some ⟨rg, 0, none⟩) 2 rc]) (results_row1 rfl _ _ (w.heap.size + 1) 71 _ (0, 0) _ rfl (setRow_heap _ _ _ _ _ _ hk4.out) Try.underlying71 rfl dg_info) rfl ⟨by unfold dgK; rw [if_pos hk], hbf.out _⟩
  · rw [if_neg hk] at hkd
    subst hkd
    have k1 : decide ((K : Int) ≤ (i : Int)) = false := decide_eq_false (by omega)
    have k2 : decide (K ≤ i) = false := decide_eq_false hk
    have b4h := Lib.hid (blk_heap b4)
    have hbf : Hid (∀ A, Below w.heap.size w (Y.setRow (w.heap.size + 1) A)) := hide (fun A => below_setRow hBY.out (by omega) A)
    go_wp2_with fail
    refine bodyPost_ret (v := .agg #[.int .i64 2, .int .u32 0, .int .u32 0, .int .i64 0, .int .u32 0, .int .u32 no, .int .u32 fi, .int .i64 (K : Nat), .int .i64 (m : Nat), .int .i64 (i : Nat), .slice (some ⟨rg, 0, none⟩) 2 rc]) (results_row1 rfl _ _ (w.heap.size + 1) 71 _ (0, 0) _ rfl (setRow_heap _ _ _ _ _ _ b4h.out) Try.underlying71 rfl dg_info) rfl ⟨by unfold dgK; rw [if_neg hk], hbf.out _⟩
end Go.Proofs.Ytipfoclmdbbjiaa

/- The document's Take of layer 8. Conditions: the counts are small. -/
import Derived.Test.YtickioeepicgcaaSeqRef2
namespace Go.Proofs.Ytickioeepicgcaa
open Go.RowKit
attribute [local irreducible] behindZ bw goneM sqLost rkA bwD
/-- what the document's Take answers -/
def RkPost (W : World) (x : SqS × Int) (e : Ending) (W' : World) : Prop := e = .returned (.tuple #[.agg (rkA x.1), .int .i64 x.2]) ∧ Below W.heap.size W W'
def RkAt (w : World) (p : Nat) (s : SqS) : Prop := w.heap[p]? = some (.cells (rkA s) 30 (0, 0))
theorem RkAt.alloc {w : World} {p : Nat} {s : SqS} (h : RkAt w p s) (o : Obj) : RkAt (w.alloc o) p s := blk_alloc h o
theorem RkAt.set0 {w : World} {p : Nat} {s : SqS} (h : RkAt w p s) (x : Bool) : RkAt (w.setCell ⟨p, 0, none⟩ (.bool x)) p { s with any := x } := by unfold RkAt; rw [blk_set h, rkA_s0]
theorem RkAt.set1 {w : World} {p : Nat} {s : SqS} (h : RkAt w p s) (x : Int) : RkAt (w.setCell ⟨p, 1, none⟩ (.int .u32 x)) p { s with top := x } := by unfold RkAt; rw [blk_set h, rkA_s1]
theorem RkAt.setm {w : World} {p : Nat} {s : SqS} (h : RkAt w p s) (j : Nat) (b : Bool) (hj : j < 64) : RkAt (w.setCell ⟨p, 2 + j, none⟩ (.bool b)) p { s with m := fun i => if i = j then b else s.m i } := by unfold RkAt; rw [blk_set h, rkA_sm s j b hj]
theorem RkAt.set66 {w : World} {p : Nat} {s : SqS} (h : RkAt w p s) (x : Int) : RkAt (w.setCell ⟨p, 66, none⟩ (.int .i64 x)) p { s with came := x } := by unfold RkAt; rw [blk_set h, rkA_s66]
theorem RkAt.set67 {w : World} {p : Nat} {s : SqS} (h : RkAt w p s) (x : Int) : RkAt (w.setCell ⟨p, 67, none⟩ (.int .i64 x)) p { s with tw := x } := by unfold RkAt; rw [blk_set h, rkA_s67]
theorem RkAt.set68 {w : World} {p : Nat} {s : SqS} (h : RkAt w p s) (x : Int) : RkAt (w.setCell ⟨p, 68, none⟩ (.int .i64 x)) p { s with lost := x } := by unfold RkAt; rw [blk_set h, rkA_s68]
theorem RkAt.other {w : World} {p q : Nat} {s : SqS} (h : RkAt w p s) (hne : p ≠ q) (off : Nat) (v : Value) : RkAt (w.setCell ⟨q, off, none⟩ v) p s := blk_set_other h hne off v
theorem RkAt.to {w : World} {p : Nat} {s t : SqS} (h : RkAt w p s) (e : rkA s = rkA t) : RkAt w p t := by unfold RkAt; rw [← e]; exact h
theorem two_blocks (w : World) (s : SqS) : RkAt ((w.alloc (.cells (rkA s) 30)).alloc (.cells (rkA zS) 30)) w.heap.size s ∧ RkAt ((w.alloc (.cells (rkA s) 30)).alloc (.cells (rkA zS) 30)) (w.heap.size + 1) zS ∧ Below w.heap.size w ((w.alloc (.cells (rkA s) 30)).alloc (.cells (rkA zS) 30)) := by
  have e : (w.alloc (.cells (rkA s) 30)).heap.size = w.heap.size + 1 := by show (w.heap.push _).size = _; rw [Array.size_push]
  exact ⟨RkAt.alloc (last_block0 _ _ _ rfl) _, last_block0 _ _ _ e.symm, ((Below.refl _ _).alloc (Nat.le_refl _) _).alloc (by rw [e]; omega) _⟩
set_option maxHeartbeats 1000000 in
theorem r_take_old (s : SqS) (c n : Int) (w : World) (ok : SqOk s c) (hc : c ≤ 1000000000000) (hn : 0 ≤ n ∧ n < 4294967296) (ha : s.any = true) (hb : behindZ n s.top ≤ -64) :
    Calls Try.prog 13 #[.agg (rkA s), .int .u32 n] w (RkPost w (s, 90)) := by
  obtain ⟨o1, o2, r1, r2, q1, q2, k1, k2⟩ := ok
  have hz := zeroRk
  obtain ⟨hs, ho, hbl⟩ := two_blocks w s
  go_enter Try.func13, Try.ntmps13
  go_upto_region 1 with (fail)
  generalize World.alloc (World.alloc w _) _ = W at *
  have c0 : W.cell? ⟨w.heap.size, 0, none⟩ = some (.bool true) := by rw [cell_of_block hs, rkA_0, ha]
  have c1 : W.cell? ⟨w.heap.size, 1, none⟩ = some (.int .u32 s.top) := by rw [cell_of_block hs]; exact rkA_1 s
  have hox := ho
  have hblx := hbl
  go_wp2_with fail
  refine (r_behind n s.top _ hn ⟨o1, o2⟩).mono ?_
  rintro e w' ⟨rfl, rfl⟩
  go_wp2_with (first | (refine wpList_load_row rfl _ _ rfl _ rfl _ _ _ _ hs Try.underlying30 rfl (rk_info _) ?_) | (refine wpList_store_row rfl _ _ _ rfl _ _ rfl rfl _ _ hox (rk_info _) (rkA_sz _ _) (rkA_one _) ?_))
  refine bodyPost_ret (v := .tuple #[.agg (rkA (s)), .int .i64 90]) ?hres rfl ?hpost
  case hpost => exact ⟨rfl, below_setRow hblx (by omega) _⟩
  case hres =>
    refine results_row_tmp rfl _ _ (w.heap.size + 1) 30 (rkA (s)) (0, 0) _ (.int .i64 90) rfl rfl ?hg Try.underlying30 rfl (rk_info _)
    case hg =>
      first
        | exact setRow_heap _ _ _ _ _ _ hox
        | (rw [ha]; exact setRow_heap _ _ _ _ _ _ hox)
set_option maxHeartbeats 1000000 in
theorem r_take_twice (s : SqS) (c n : Int) (w : World) (ok : SqOk s c) (hc : c ≤ 1000000000000) (hn : 0 ≤ n ∧ n < 4294967296) (ha : s.any = true) (j : Nat) (hj : behindZ n s.top = -(j : Int)) (hj2 : j < 64) (hm : s.m j = true) :
    Calls Try.prog 13 #[.agg (rkA s), .int .u32 n] w (RkPost w ({ s with tw := s.tw + 1 }, 171)) := by
  obtain ⟨o1, o2, r1, r2, q1, q2, k1, k2⟩ := ok
  have hz := zeroRk
  obtain ⟨hs, ho, hbl⟩ := two_blocks w s
  have hbeh := fun W => r_behind n s.top W hn ⟨o1, o2⟩
  rw [hj] at hbeh
  go_enter Try.func13, Try.ntmps13
  go_upto_region 1 with (fail)
  generalize World.alloc (World.alloc w _) _ = W at *
  have c0 : W.cell? ⟨w.heap.size, 0, none⟩ = some (.bool true) := by rw [cell_of_block hs, rkA_0, ha]
  have c1 : W.cell? ⟨w.heap.size, 1, none⟩ = some (.int .u32 s.top) := by rw [cell_of_block hs]; exact rkA_1 s
  have cm : W.cell? ⟨w.heap.size, 2 + j, none⟩ = some (.bool true) := by rw [cell_of_block hs, rkA_m s j hj2, hm]
  have c67 : W.cell? ⟨w.heap.size, 67, none⟩ = some (.int .i64 s.tw) := by rw [cell_of_block hs]; exact rkA_67 s
  have f67 : W.frozen? ⟨w.heap.size, 67, none⟩ = false := frozen_of_row W _ 67 _ _ hs
  have hsx := hs.set67 (s.tw + 1)
  have hox := ho.other (q := w.heap.size) (by omega) 67 (.int .i64 (s.tw + 1))
  have hblx := hbl.setCell (p := ⟨w.heap.size, 67, none⟩) (Nat.le_refl _) (.int .i64 (s.tw + 1))
  go_wp2_with fail
  refine (hbeh _).mono ?_
  rintro e w' ⟨rfl, rfl⟩
  go_wp2_with (first | (refine wpList_load_row rfl _ _ rfl _ rfl _ _ _ _ hsx Try.underlying30 rfl (rk_info _) ?_) | (refine wpList_store_row rfl _ _ _ rfl _ _ rfl rfl _ _ hox (rk_info _) (rkA_sz _ _) (rkA_one _) ?_))
  refine bodyPost_ret (v := .tuple #[.agg (rkA ({ s with tw := s.tw + 1 })), .int .i64 171]) ?hres rfl ?hpost
  case hpost => exact ⟨rfl, below_setRow hblx (by omega) _⟩
  case hres =>
    refine results_row_tmp rfl _ _ (w.heap.size + 1) 30 (rkA ({ s with tw := s.tw + 1 })) (0, 0) _ (.int .i64 171) rfl rfl ?hg Try.underlying30 rfl (rk_info _)
    case hg =>
      first
        | exact setRow_heap _ _ _ _ _ _ hox
        | (rw [ha]; exact setRow_heap _ _ _ _ _ _ hox)
set_option maxHeartbeats 1000000 in
theorem r_take_once (s : SqS) (c n : Int) (w : World) (ok : SqOk s c) (hc : c ≤ 1000000000000) (hn : 0 ≤ n ∧ n < 4294967296) (ha : s.any = true) (j : Nat) (hj : behindZ n s.top = -(j : Int)) (hj2 : j < 64) (hm : s.m j = false) :
    Calls Try.prog 13 #[.agg (rkA s), .int .u32 n] w (RkPost w ({ s with m := onM s.m j, came := s.came + 1 }, 0)) := by
  obtain ⟨o1, o2, r1, r2, q1, q2, k1, k2⟩ := ok
  have hz := zeroRk
  obtain ⟨hs, ho, hbl⟩ := two_blocks w s
  have hbeh := fun W => r_behind n s.top W hn ⟨o1, o2⟩
  rw [hj] at hbeh
  go_enter Try.func13, Try.ntmps13
  go_upto_region 1 with (fail)
  generalize World.alloc (World.alloc w _) _ = W at *
  have c0 : W.cell? ⟨w.heap.size, 0, none⟩ = some (.bool true) := by rw [cell_of_block hs, rkA_0, ha]
  have c1 : W.cell? ⟨w.heap.size, 1, none⟩ = some (.int .u32 s.top) := by rw [cell_of_block hs]; exact rkA_1 s
  have cm : W.cell? ⟨w.heap.size, 2 + j, none⟩ = some (.bool false) := by rw [cell_of_block hs, rkA_m s j hj2, hm]
  have fm : W.frozen? ⟨w.heap.size, 2 + j, none⟩ = false := frozen_of_row W _ _ _ _ hs
  have c66 : W.cell? ⟨w.heap.size, 66, none⟩ = some (.int .i64 s.came) := by rw [cell_of_block hs]; exact rkA_66 s
  have f66 : W.frozen? ⟨w.heap.size, 66, none⟩ = false := frozen_of_row W _ 66 _ _ hs
  have hsm : RkAt (W.setCell ⟨w.heap.size, 2 + j, none⟩ (.bool true)) w.heap.size { s with m := onM s.m j } := (hs.setm j true hj2).to (rkA_congr _ _ rfl rfl (fun i _ => by unfold onM; by_cases h : i = j <;> simp [h]) rfl rfl rfl)
  have hsx := hsm.set66 (s.came + 1)
  have hox := (ho.other (q := w.heap.size) (by omega) (2 + j) (.bool true)).other (q := w.heap.size) (by omega) 66 (.int .i64 (s.came + 1))
  have hblx := (hbl.setCell (p := ⟨w.heap.size, 2 + j, none⟩) (Nat.le_refl _) (.bool true)).setCell (p := ⟨w.heap.size, 66, none⟩) (Nat.le_refl _) (.int .i64 (s.came + 1))
  go_wp2_with fail
  refine (hbeh _).mono ?_
  rintro e w' ⟨rfl, rfl⟩
  go_wp2_with (first | (refine wpList_load_row rfl _ _ rfl _ rfl _ _ _ _ hsx Try.underlying30 rfl (rk_info _) ?_) | (refine wpList_store_row rfl _ _ _ rfl _ _ rfl rfl _ _ hox (rk_info _) (rkA_sz _ _) (rkA_one _) ?_))
  refine bodyPost_ret (v := .tuple #[.agg (rkA ({ s with m := onM s.m j, came := s.came + 1 })), .int .i64 0]) ?hres rfl ?hpost
  case hpost => exact ⟨rfl, below_setRow hblx (by omega) _⟩
  case hres =>
    refine results_row_tmp rfl _ _ (w.heap.size + 1) 30 (rkA ({ s with m := onM s.m j, came := s.came + 1 })) (0, 0) _ (.int .i64 0) rfl rfl ?hg Try.underlying30 rfl (rk_info _)
    case hg =>
      first
        | exact setRow_heap _ _ _ _ _ _ hox
        | (rw [ha]; exact setRow_heap _ _ _ _ _ _ hox)
end Go.Proofs.Ytickioeepicgcaa

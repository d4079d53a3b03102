/- The document's Take of layer 8 whole; the law's Same. Conditions: the counts are small. -/
import Derived.Test.YtickioeepicgcaaSeqRef6
import Derived.Deep.RegionHeld3
import Derived.Test.YtickioeepicgcaaWhole
namespace Go.Proofs.Ytickioeepicgcaa
open Go.RowKit
attribute [local irreducible] behindZ bw goneM sqLost rkA bwD upM
/-- The document's Take, whole. -/
theorem r_take (s : SqS) (c n : Int) (w : World) (ok : SqOk s c) (hc : c ≤ 1000000000000) (hn : 0 ≤ n ∧ n < 4294967296) :
    Calls Try.prog 13 #[.agg (rkA s), .int .u32 n] w (RkPost w (sqTake s n)) := by
  unfold sqTake
  have hbd := behindZ_bd n s.top
  cases ha : s.any
  · rw [if_pos rfl]; exact r_take_first s n w ha
  · rw [if_neg (by simp)]
    by_cases h1 : 0 < behindZ n s.top
    · rw [if_pos h1, ← ha]; exact r_take_up s c n _ w ok hc hn ha rfl h1 hbd.2
    · rw [if_neg h1]
      by_cases h2 : behindZ n s.top ≤ -64
      · rw [if_pos h2]; exact r_take_old s c n w ok hc hn ha h2
      · rw [if_neg h2]
        have hj : behindZ n s.top = -(((-(behindZ n s.top)).toNat : Nat) : Int) := by omega
        have hj2 : (-(behindZ n s.top)).toNat < 64 := by omega
        cases hm : s.m (-(behindZ n s.top)).toNat
        · rw [if_neg (by simp)]; have h := r_take_once s c n w ok hc hn ha _ hj hj2 hm; rw [ha] at h; exact h
        · rw [if_pos rfl]; have h := r_take_twice s c n w ok hc hn ha _ hj hj2 hm; rw [ha] at h; exact h
theorem rk_range {w : World} {p : Nat} {s : SqS} (h : RkAt w p s) : w.rangeAt p 0 (rkA s).toList := fun j v hv => by
  rw [cell_of_block h, Nat.zero_add, ← hv, Array.getElem?_toList]
/-- What Same's region leans on: both states lie at the blocks named, nothing older has turned. -/
def SmAt (w : World) (s : SqS) (w' : World) : Prop := SqAt w' w.heap.size s ∧ RkAt w' (w.heap.size + 1) s ∧ Below w.heap.size w w' ∧ w.heap.size + 1 < w'.heap.size
theorem SmAt.drew {w w' : World} {s : SqS} (h : SmAt w s w') : SmAt w s w'.drew := ⟨h.1, h.2.1, below_drewN h.2.2.1 1, h.2.2.2⟩
theorem SmAt.below {w w' w'' : World} {s : SqS} (h : SmAt w s w') (hb : Below w'.heap.size w' w'') : SmAt w s w'' := by
  obtain ⟨h1, h2, h3, h4⟩ := h
  refine ⟨?_, ?_, h3.trans (hb.mono (by omega)), by have := hb.size; omega⟩
  · unfold SqAt; rw [hb.block _ (by omega)]; exact h1
  · unfold RkAt; rw [hb.block _ (by omega)]; exact h2
theorem SmAt.cells {w w' : World} {s : SqS} (h : SmAt w s w') :
    w'.cell? ⟨w.heap.size, 0, none⟩ = some (.bool s.any) ∧ w'.cell? ⟨w.heap.size, 1, none⟩ = some (.int .u32 s.top) ∧ w'.cell? ⟨w.heap.size, 2, none⟩ = some (.int .u64 (bw s.m : Nat)) ∧ w'.cell? ⟨w.heap.size, 3, none⟩ = some (.int .i64 s.came) ∧
    w'.cell? ⟨w.heap.size, 4, none⟩ = some (.int .i64 s.tw) ∧ w'.cell? ⟨w.heap.size, 5, none⟩ = some (.int .i64 s.lost) ∧
    w'.cell? ⟨w.heap.size + 1, 0, none⟩ = some (.bool s.any) ∧ w'.cell? ⟨w.heap.size + 1, 1, none⟩ = some (.int .u32 s.top) ∧ w'.cell? ⟨w.heap.size + 1, 66, none⟩ = some (.int .i64 s.came) ∧
    w'.cell? ⟨w.heap.size + 1, 67, none⟩ = some (.int .i64 s.tw) ∧ w'.cell? ⟨w.heap.size + 1, 68, none⟩ = some (.int .i64 s.lost) ∧ blk w' (w.heap.size + 1) = some (.cells (rkA s) 30 (0, 0)) ∧ SmAt w s w' := by
  obtain ⟨h1, h2, h3, h4⟩ := h
  refine ⟨?_, ?_, ?_, ?_, ?_, ?_, ?_, ?_, ?_, ?_, ?_, h2, h1, h2, h3, h4⟩
  · rw [cell_of_block h1]; rfl
  · rw [cell_of_block h1]; rfl
  · rw [cell_of_block h1]; rfl
  · rw [cell_of_block h1]; rfl
  · rw [cell_of_block h1]; rfl
  · rw [cell_of_block h1]; rfl
  · exact (cell_of_block h2).trans (rkA_0 _)
  · exact (cell_of_block h2).trans (rkA_1 _)
  · exact (cell_of_block h2).trans (rkA_66 _)
  · exact (cell_of_block h2).trans (rkA_67 _)
  · exact (cell_of_block h2).trans (rkA_68 _)
theorem ld_rk0 (v : Value) : Instr.loadAt 30 v = wLoad 30 v := rfl
theorem ld_rk (w : World) (b : Nat) : (wLoad 30 (.pointer (some ⟨b, 0, none⟩))).run Try.prog w = loadAns 69 w (blk w b) (wLoadRes Try.prog 30 b w) := run_wLoad Try.underlying30 rfl rk_info69 w b
theorem rk_size69 (s : SqS) : (rkA s).size = 69 := rkA_size s
attribute [local irreducible] blk wLoad wLoadRes loadAns
attribute [local go_sem ↓] ld_rk0
attribute [local go_sem] ld_rk loadAns_some rk_size69
set_option maxRecDepth 100000 in
set_option maxHeartbeats 1000000 in
theorem q_same (s : SqS) (w : World) :
    Calls Try.prog 14 #[.agg (sqA s), .agg (rkA s)] w fun e w' => e = .returned (.bool true) ∧ Below w.heap.size w w' := by
  have hS : SmAt w s ((w.alloc (.cells (sqA s) 27)).alloc (.cells (rkA s) 30)) := by
    have e : (w.alloc (.cells (sqA s) 27)).heap.size = w.heap.size + 1 := by show (w.heap.push _).size = _; rw [Array.size_push]
    refine ⟨blk_alloc (last_block0 _ _ _ rfl) _, last_block0 _ _ _ e.symm, ((Below.refl _ _).alloc (Nat.le_refl _) _).alloc (by rw [e]; omega) _, ?_⟩
    show _ < ((w.heap.push _).push _).size
    rw [Array.size_push, Array.size_push]; omega
  go_enter Try.func14, Try.ntmps14
  go_upto_region 1 with (fail)
  generalize World.alloc (World.alloc w _) _ = W at hS ⊢
  have hS2 := hS.drew
  go_region_held3 (fun w' => w'.cell? ⟨w.heap.size, 0, none⟩ = some (.bool s.any) ∧ w'.cell? ⟨w.heap.size, 1, none⟩ = some (.int .u32 s.top) ∧ w'.cell? ⟨w.heap.size, 2, none⟩ = some (.int .u64 (bw s.m : Nat)) ∧ w'.cell? ⟨w.heap.size, 3, none⟩ = some (.int .i64 s.came) ∧
    w'.cell? ⟨w.heap.size, 4, none⟩ = some (.int .i64 s.tw) ∧ w'.cell? ⟨w.heap.size, 5, none⟩ = some (.int .i64 s.lost) ∧
    w'.cell? ⟨w.heap.size + 1, 0, none⟩ = some (.bool s.any) ∧ w'.cell? ⟨w.heap.size + 1, 1, none⟩ = some (.int .u32 s.top) ∧ w'.cell? ⟨w.heap.size + 1, 66, none⟩ = some (.int .i64 s.came) ∧
    w'.cell? ⟨w.heap.size + 1, 67, none⟩ = some (.int .i64 s.tw) ∧ w'.cell? ⟨w.heap.size + 1, 68, none⟩ = some (.int .i64 s.lost) ∧ blk w' (w.heap.size + 1) = some (.cells (rkA s) 30 (0, 0)) ∧ SmAt w s w')
    (first | exact hS2.cells | (go_split_ands; exact (SmAt.below (by assumption) (by assumption)).cells))
    (first | (go_at_call 19; refine (r_bits s _).mono ?_; rintro e w1 ⟨rfl, hb1⟩))
  go_split_ands
  rename_i hfin
  go_wp2_with fail
  go_ret
  exact ⟨rfl, hfin.2.2.1⟩
end Go.Proofs.Ytickioeepicgcaa

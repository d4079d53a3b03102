import Derived.Test.YtipfoclmdbbjiaaGrBs
import Derived.Deep.QuietTactic
import Derived.Deep.DeepCutAuto
/- GroupBuilds: the walk of the law. -/
namespace Go.Proofs.Ytipfoclmdbbjiaa
open Go.RowKit
set_option maxRecDepth 100000 in
theorem beq_self_i3 (n : Int) : (n != n) = false := by simp
set_option maxRecDepth 100000 in
theorem zeroC16 (w : World) : (zeroValue 33).run Try.prog w = .ok (.agg #[.int .i64 0, .int .i64 0, .int .i64 0]) w := by kernel_rfl
set_option maxRecDepth 100000 in
theorem zeroOp17 (w : World) : (zeroValue 41).run Try.prog w = .ok (.agg #[.bool false, .int .u16 0, .int .i64 0]) w := by kernel_rfl
attribute [local irreducible] gexp gtbl glog rmul rinv rpow zexp mixF blk wLoad wLoadRes loadAns wStore wStoreRes storeAns Plain flF BRow MRow MAt By IsGf ivS rsF mlF RowsAt paF OwnS SlR dtF inV grD gbClo gbGrp gbTick gbAdd rbA OutAt
attribute [local go_sem ↓] ld_g0 sto_g0 ld_w0 sto_w0 ld_b0 sto_b0
attribute [local go_sem] ld_g sto_g ld_w sto_w ld_b sto_b loadAns_some storeAns_some gg_size gg_plain rb_size rb_plain rbA_size blk_alloc_if blk_setRow_if blk_drew_at blk_drewN_at rowPut_some blk_setCell_if cellPut_some
set_option maxRecDepth 100000 in
set_option maxHeartbeats 16000000 in
theorem groupBuilds_walk (v0 : Value) (a1 : Option Addr) (len1 cap1 : Nat) (w : World) (w0 : IsAgg [some .i64, some .i64, some .i64] v0) (w1 : IsRec [none, some .u16, some .i64] w a1 len1 cap1) :
    Calls Try.prog 3 #[v0, .slice a1 len1 cap1] w fun e w' => e = .returned (.bool true) ∧ Below w.heap.size w w' := by
  have hzb := zeroRB
  have hzw := zeroGW
  have hzc := zeroC16
  have hzo := zeroOp17
  obtain ⟨x, y0, z0, rfl, _, _, _⟩ := agg3 w0
  obtain ⟨g, hg⟩ := gops_open w1
  have hlen : len1 ≤ 9223372036854775807 := by obtain ⟨_, _, _, h1, h2, _⟩ := w1; unfold maxLen at h2; omega
  have hgh := Lib.hid hg
  have hz := zeroGG
  have hB0 := below_one w (.cells #[.int .i64 x, .int .i64 y0, .int .i64 z0] 23)
  have b0 := last_block0 w (.cells #[.int .i64 x, .int .i64 y0, .int .i64 z0] 23) _ rfl
  clear w0 w1 hg
  go_enter Try.func3, Try.ntmps3
  go_upto_region 1 with (fail)
  generalize World.alloc w _ = X at *
  have hwX : w.heap.size < X.heap.size := (Array.getElem?_eq_some_iff.1 b0).1
  have b0h := Lib.hid b0
  have hB0h := Lib.hid hB0
  clear b0 hB0
  go_wp2_with fail
  refine (g_awake X).mono ?_
  rintro e W1 ⟨rfl, hb1⟩
  have hB1 := Lib.hid (hB0h.out.trans (hb1.mono (by omega)))
  have hbx : Hid (∀ y, Below W1.heap.size W1 y → y.heap[w.heap.size]? = some (.cells #[.int .i64 x, .int .i64 y0, .int .i64 z0] 23 (0, 0))) := hide (fun y hy => (hy.block _ (by have := hb1.size; omega)).trans ((hb1.block _ hwX).trans b0h.out))
  have hS : Hid (∀ y, Below W1.heap.size W1 y → (fun y : World => y.cell? ⟨w.heap.size, 0, none⟩ = some (.int .i64 x) ∧ y.cell? ⟨w.heap.size, 1, none⟩ = some (.int .i64 y0) ∧ y.cell? ⟨w.heap.size, 2, none⟩ = some (.int .i64 z0)) y) := hide (fun y hy => ⟨(cell_of_block (hbx.out y hy)).trans rfl, (cell_of_block (hbx.out y hy)).trans rfl, (cell_of_block (hbx.out y hy)).trans rfl⟩)
  have hs1 : w.heap.size < W1.heap.size := by have := hb1.size; omega
  clear hb1
  go_upto_region 3 with (fail)
  have hBd : Hid (Below W1.heap.size W1 W1.drew) := hide (below_drewN (Below.refl _ _) 1)
  have hHeld : (fun y : World => y.cell? ⟨w.heap.size, 0, none⟩ = some (.int .i64 x) ∧ y.cell? ⟨w.heap.size, 1, none⟩ = some (.int .i64 y0) ∧ y.cell? ⟨w.heap.size, 2, none⟩ = some (.int .i64 z0)) W1.drew := hS.out _ hBd.out
  refine h_begin 13 (fun y : World => y.cell? ⟨w.heap.size, 0, none⟩ = some (.int .i64 x) ∧ y.cell? ⟨w.heap.size, 1, none⟩ = some (.int .i64 y0) ∧ y.cell? ⟨w.heap.size, 2, none⟩ = some (.int .i64 z0)) rfl (by kernel_rfl) hHeld ?_
  first
    | (refine h_run (i := 1) (v := ?_) hHeld rfl (by kernel_rfl) (by kernel_rfl) (by kernel_rfl) ?_ ?_ ?_
       rotate_left
       · rfl
       · (intro x hSx; (try dsimp only at hSx); go_simp <;> with_reducible rfl)
       simp only [Act.put, List.setIfInBounds_toArray, List.set_cons_zero, List.set_cons_succ])
    | (refine h_skip (i := 1) hHeld rfl (by kernel_rfl) (by kernel_rfl) (by kernel_rfl) ?_ ?_
       · rfl
       simp only [Act.put, List.setIfInBounds_toArray, List.set_cons_zero, List.set_cons_succ])
  first
    | (refine h_run (i := 2) (v := ?_) hHeld rfl (by kernel_rfl) (by kernel_rfl) (by kernel_rfl) ?_ ?_ ?_
       rotate_left
       · rfl
       · (intro x hSx; (try dsimp only at hSx); go_simp <;> with_reducible rfl)
       simp only [Act.put, List.setIfInBounds_toArray, List.set_cons_zero, List.set_cons_succ])
    | (refine h_skip (i := 2) hHeld rfl (by kernel_rfl) (by kernel_rfl) (by kernel_rfl) ?_ ?_
       · rfl
       simp only [Act.put, List.setIfInBounds_toArray, List.set_cons_zero, List.set_cons_succ])
  first
    | (refine h_run (i := 3) (v := ?_) hHeld rfl (by kernel_rfl) (by kernel_rfl) (by kernel_rfl) ?_ ?_ ?_
       rotate_left
       · rfl
       · (intro x hSx; (try dsimp only at hSx); go_simp <;> with_reducible rfl)
       simp only [Act.put, List.setIfInBounds_toArray, List.set_cons_zero, List.set_cons_succ])
    | (refine h_skip (i := 3) hHeld rfl (by kernel_rfl) (by kernel_rfl) (by kernel_rfl) ?_ ?_
       · rfl
       simp only [Act.put, List.setIfInBounds_toArray, List.set_cons_zero, List.set_cons_succ])
  first
    | (refine h_run (i := 4) (v := ?_) hHeld rfl (by kernel_rfl) (by kernel_rfl) (by kernel_rfl) ?_ ?_ ?_
       rotate_left
       · rfl
       · (intro x hSx; (try dsimp only at hSx); go_simp <;> with_reducible rfl)
       simp only [Act.put, List.setIfInBounds_toArray, List.set_cons_zero, List.set_cons_succ])
    | (refine h_skip (i := 4) hHeld rfl (by kernel_rfl) (by kernel_rfl) (by kernel_rfl) ?_ ?_
       · rfl
       simp only [Act.put, List.setIfInBounds_toArray, List.set_cons_zero, List.set_cons_succ])
  first
    | (refine h_run (i := 5) (v := ?_) hHeld rfl (by kernel_rfl) (by kernel_rfl) (by kernel_rfl) ?_ ?_ ?_
       rotate_left
       · rfl
       · (intro x hSx; (try dsimp only at hSx); go_simp <;> with_reducible rfl)
       simp only [Act.put, List.setIfInBounds_toArray, List.set_cons_zero, List.set_cons_succ])
    | (refine h_skip (i := 5) hHeld rfl (by kernel_rfl) (by kernel_rfl) (by kernel_rfl) ?_ ?_
       · rfl
       simp only [Act.put, List.setIfInBounds_toArray, List.set_cons_zero, List.set_cons_succ])
  first
    | (refine h_run (i := 6) (v := ?_) hHeld rfl (by kernel_rfl) (by kernel_rfl) (by kernel_rfl) ?_ ?_ ?_
       rotate_left
       · rfl
       · (intro x hSx; (try dsimp only at hSx); go_simp <;> with_reducible rfl)
       simp only [Act.put, List.setIfInBounds_toArray, List.set_cons_zero, List.set_cons_succ])
    | (refine h_skip (i := 6) hHeld rfl (by kernel_rfl) (by kernel_rfl) (by kernel_rfl) ?_ ?_
       · rfl
       simp only [Act.put, List.setIfInBounds_toArray, List.set_cons_zero, List.set_cons_succ])
  clear hHeld
  refine h_call (i := 0) (fun y : World => y.cell? ⟨w.heap.size, 0, none⟩ = some (.int .i64 x) ∧ y.cell? ⟨w.heap.size, 1, none⟩ = some (.int .i64 y0) ∧ y.cell? ⟨w.heap.size, 2, none⟩ = some (.int .i64 z0)) (fun _ h => h) (gf_new_below W1.drew) rfl (by kernel_rfl) rfl ?_ ?_
  · go_simp <;> with_reducible rfl
  rintro e W2 ⟨rfl, hgf, hb2⟩
  have hgfh := Lib.hid hgf
  have hB2 := Lib.hid (hBd.out.trans (hb2.mono hBd.out.size))
  generalize W1.drew.heap.size = tb at *
  refine ⟨_, rfl, hS.out _ hB2.out, ?_⟩
  clear hgf hb2
  by_cases hr : x < 1 ∨ 16 < x ∨ y0 < 1 ∨ 4096 < y0 ∨ z0 < 0 ∨ 16 < z0
  · refine h_call (i := 7) (fun y : World => y.cell? ⟨w.heap.size, 0, none⟩ = some (.int .i64 x) ∧ y.cell? ⟨w.heap.size, 1, none⟩ = some (.int .i64 y0) ∧ y.cell? ⟨w.heap.size, 2, none⟩ = some (.int .i64 z0)) (fun _ h => h) (g_new_no tb x y0 z0 W2 hr) rfl (by kernel_rfl) rfl ?_ ?_
    · go_simp <;> with_reducible rfl
    rintro e W3 ⟨rfl, rfl⟩
    have hHeld : (fun y : World => y.cell? ⟨w.heap.size, 0, none⟩ = some (.int .i64 x) ∧ y.cell? ⟨w.heap.size, 1, none⟩ = some (.int .i64 y0) ∧ y.cell? ⟨w.heap.size, 2, none⟩ = some (.int .i64 z0)) W2 := hS.out _ hB2.out
    refine ⟨_, rfl, hHeld, ?_⟩
    first
      | (refine h_run (i := 8) (v := ?_) hHeld rfl (by kernel_rfl) (by kernel_rfl) (by kernel_rfl) ?_ ?_ ?_
         rotate_left
         · rfl
         · (intro x hSx; (try dsimp only at hSx); go_simp <;> with_reducible rfl)
         simp only [Act.put, List.setIfInBounds_toArray, List.set_cons_zero, List.set_cons_succ])
      | (refine h_skip (i := 8) hHeld rfl (by kernel_rfl) (by kernel_rfl) (by kernel_rfl) ?_ ?_
         · rfl
         simp only [Act.put, List.setIfInBounds_toArray, List.set_cons_zero, List.set_cons_succ])
    first
      | (refine h_run (i := 9) (v := ?_) hHeld rfl (by kernel_rfl) (by kernel_rfl) (by kernel_rfl) ?_ ?_ ?_
         rotate_left
         · rfl
         · (intro x hSx; (try dsimp only at hSx); go_simp <;> with_reducible rfl)
         simp only [Act.put, List.setIfInBounds_toArray, List.set_cons_zero, List.set_cons_succ])
      | (refine h_skip (i := 9) hHeld rfl (by kernel_rfl) (by kernel_rfl) (by kernel_rfl) ?_ ?_
         · rfl
         simp only [Act.put, List.setIfInBounds_toArray, List.set_cons_zero, List.set_cons_succ])
    first
      | (refine h_run (i := 10) (v := ?_) hHeld rfl (by kernel_rfl) (by kernel_rfl) (by kernel_rfl) ?_ ?_ ?_
         rotate_left
         · rfl
         · (intro x hSx; (try dsimp only at hSx); go_simp <;> with_reducible rfl)
         simp only [Act.put, List.setIfInBounds_toArray, List.set_cons_zero, List.set_cons_succ])
      | (refine h_skip (i := 10) hHeld rfl (by kernel_rfl) (by kernel_rfl) (by kernel_rfl) ?_ ?_
         · rfl
         simp only [Act.put, List.setIfInBounds_toArray, List.set_cons_zero, List.set_cons_succ])
    first
      | (refine h_run (i := 11) (v := ?_) hHeld rfl (by kernel_rfl) (by kernel_rfl) (by kernel_rfl) ?_ ?_ ?_
         rotate_left
         · rfl
         · (intro x hSx; (try dsimp only at hSx); go_simp <;> with_reducible rfl)
         simp only [Act.put, List.setIfInBounds_toArray, List.set_cons_zero, List.set_cons_succ])
      | (refine h_skip (i := 11) hHeld rfl (by kernel_rfl) (by kernel_rfl) (by kernel_rfl) ?_ ?_
         · rfl
         simp only [Act.put, List.setIfInBounds_toArray, List.set_cons_zero, List.set_cons_succ])
    first
      | (refine h_run (i := 12) (v := ?_) hHeld rfl (by kernel_rfl) (by kernel_rfl) (by kernel_rfl) ?_ ?_ ?_
         rotate_left
         · rfl
         · (intro x hSx; (try dsimp only at hSx); go_simp <;> with_reducible rfl)
         simp only [Act.put, List.setIfInBounds_toArray, List.set_cons_zero, List.set_cons_succ])
      | (refine h_skip (i := 12) hHeld rfl (by kernel_rfl) (by kernel_rfl) (by kernel_rfl) ?_ ?_
         · rfl
         simp only [Act.put, List.setIfInBounds_toArray, List.set_cons_zero, List.set_cons_succ])
    refine h_done (by kernel_rfl) ?_
    have hBf := Lib.hid (hB1.out.trans (hB2.out.mono (by omega)))
    obtain ⟨c0, c1, c2⟩ := hHeld
    have dd : (decide (x < 1) = true) ∨ (decide (x < 1) = false ∧ decide (16 < x) = true) ∨ (decide (x < 1) = false ∧ decide (16 < x) = false ∧ decide (y0 < 1) = true) ∨ (decide (x < 1) = false ∧ decide (16 < x) = false ∧ decide (y0 < 1) = false ∧ decide (4096 < y0) = true) ∨ (decide (x < 1) = false ∧ decide (16 < x) = false ∧ decide (y0 < 1) = false ∧ decide (4096 < y0) = false ∧ decide (z0 < 0) = true) ∨ (decide (x < 1) = false ∧ decide (16 < x) = false ∧ decide (y0 < 1) = false ∧ decide (4096 < y0) = false ∧ decide (z0 < 0) = false ∧ decide (16 < z0) = true) := by
      simp only [decide_eq_true_eq, decide_eq_false_iff_not]
      omega
    clear hr
    rcases dd with e0 | ⟨e0, e1⟩ | ⟨e0, e1, e2⟩ | ⟨e0, e1, e2, e3⟩ | ⟨e0, e1, e2, e3, e4⟩ | ⟨e0, e1, e2, e3, e4, e5⟩ <;>
    · go_wp2_with fail
      go_ret
      exact ⟨rfl, hBf.out⟩
  obtain ⟨size, hxe⟩ : ∃ n : Nat, x = n := ⟨x.toNat, by omega⟩
  obtain ⟨age, hye⟩ : ∃ n : Nat, y0 = n := ⟨y0.toNat, by omega⟩
  subst hxe hye
  have hr1 : 1 ≤ size ∧ size ≤ 16 ∧ 1 ≤ age ∧ age ≤ 4096 ∧ 0 ≤ z0 ∧ z0 ≤ 16 := by omega
  obtain ⟨s0, s1, ag0, ag1, m0, m1⟩ := hr1
  clear hr
  refine h_call (i := 7) (fun y : World => y.cell? ⟨w.heap.size, 0, none⟩ = some (.int .i64 (size : Nat)) ∧ y.cell? ⟨w.heap.size, 1, none⟩ = some (.int .i64 (age : Nat)) ∧ y.cell? ⟨w.heap.size, 2, none⟩ = some (.int .i64 z0)) (fun _ h => h) (g_new tb size age z0 W2 hgfh.out s0 s1 ag0 ag1 m0 m1) rfl (by kernel_rfl) rfl ?_ ?_
  · go_simp <;> with_reducible rfl
  rintro e W3 ⟨bp, cp, rfl, hbat, hb3, hbp, hcp⟩
  have hB3 := Lib.hid (hB2.out.trans (hb3.mono hB2.out.size))
  have hbath := Lib.hid hbat
  have hHeld : (fun y : World => y.cell? ⟨w.heap.size, 0, none⟩ = some (.int .i64 (size : Nat)) ∧ y.cell? ⟨w.heap.size, 1, none⟩ = some (.int .i64 (age : Nat)) ∧ y.cell? ⟨w.heap.size, 2, none⟩ = some (.int .i64 z0)) W3 := hS.out _ hB3.out
  refine ⟨_, rfl, hHeld, ?_⟩
  clear hbat hb3
  first
    | (refine h_run (i := 8) (v := ?_) hHeld rfl (by kernel_rfl) (by kernel_rfl) (by kernel_rfl) ?_ ?_ ?_
       rotate_left
       · rfl
       · (intro x hSx; (try dsimp only at hSx); go_simp <;> with_reducible rfl)
       simp only [Act.put, List.setIfInBounds_toArray, List.set_cons_zero, List.set_cons_succ])
    | (refine h_skip (i := 8) hHeld rfl (by kernel_rfl) (by kernel_rfl) (by kernel_rfl) ?_ ?_
       · rfl
       simp only [Act.put, List.setIfInBounds_toArray, List.set_cons_zero, List.set_cons_succ])
  first
    | (refine h_run (i := 9) (v := ?_) hHeld rfl (by kernel_rfl) (by kernel_rfl) (by kernel_rfl) ?_ ?_ ?_
       rotate_left
       · rfl
       · (intro x hSx; (try dsimp only at hSx); go_simp <;> with_reducible rfl)
       simp only [Act.put, List.setIfInBounds_toArray, List.set_cons_zero, List.set_cons_succ])
    | (refine h_skip (i := 9) hHeld rfl (by kernel_rfl) (by kernel_rfl) (by kernel_rfl) ?_ ?_
       · rfl
       simp only [Act.put, List.setIfInBounds_toArray, List.set_cons_zero, List.set_cons_succ])
  first
    | (refine h_run (i := 10) (v := ?_) hHeld rfl (by kernel_rfl) (by kernel_rfl) (by kernel_rfl) ?_ ?_ ?_
       rotate_left
       · rfl
       · (intro x hSx; (try dsimp only at hSx); go_simp <;> with_reducible rfl)
       simp only [Act.put, List.setIfInBounds_toArray, List.set_cons_zero, List.set_cons_succ])
    | (refine h_skip (i := 10) hHeld rfl (by kernel_rfl) (by kernel_rfl) (by kernel_rfl) ?_ ?_
       · rfl
       simp only [Act.put, List.setIfInBounds_toArray, List.set_cons_zero, List.set_cons_succ])
  first
    | (refine h_run (i := 11) (v := ?_) hHeld rfl (by kernel_rfl) (by kernel_rfl) (by kernel_rfl) ?_ ?_ ?_
       rotate_left
       · rfl
       · (intro x hSx; (try dsimp only at hSx); go_simp <;> with_reducible rfl)
       simp only [Act.put, List.setIfInBounds_toArray, List.set_cons_zero, List.set_cons_succ])
    | (refine h_skip (i := 11) hHeld rfl (by kernel_rfl) (by kernel_rfl) (by kernel_rfl) ?_ ?_
       · rfl
       simp only [Act.put, List.setIfInBounds_toArray, List.set_cons_zero, List.set_cons_succ])
  first
    | (refine h_run (i := 12) (v := ?_) hHeld rfl (by kernel_rfl) (by kernel_rfl) (by kernel_rfl) ?_ ?_ ?_
       rotate_left
       · rfl
       · (intro x hSx; (try dsimp only at hSx); go_simp <;> with_reducible rfl)
       simp only [Act.put, List.setIfInBounds_toArray, List.set_cons_zero, List.set_cons_succ])
    | (refine h_skip (i := 12) hHeld rfl (by kernel_rfl) (by kernel_rfl) (by kernel_rfl) ?_ ?_
       · rfl
       simp only [Act.put, List.setIfInBounds_toArray, List.set_cons_zero, List.set_cons_succ])
  refine h_done (by kernel_rfl) ?_
  obtain ⟨c0, c1, c2⟩ := hHeld
  have e0 : decide ((size : Int) < 1) = false := decide_eq_false (by omega)
  have e1 : decide ((16 : Int) < (size : Int)) = false := decide_eq_false (by omega)
  have e2 : decide (16 < size) = false := decide_eq_false (by omega)
  have e3 : decide ((age : Int) < 1) = false := decide_eq_false (by omega)
  have e4 : decide ((4096 : Int) < (age : Int)) = false := decide_eq_false (by omega)
  have e5 : decide (4096 < age) = false := decide_eq_false (by omega)
  have e6 : decide (z0 < 0) = false := decide_eq_false (by omega)
  have e7 : decide (16 < z0) = false := decide_eq_false (by omega)
  have hs2 := hB2.out.size
  have hB03 := Lib.hid (hB1.out.trans (hB3.out.mono (by omega)))
  have hs3 := hB3.out.size
  clear hS hbx hB2 hBd hgfh
  go_upto_region 9 with (fail)
  clear c0 c1 c2 e0 e1 e2 e3 e4 e5 e6 e7
  obtain ⟨x0, x1, x2⟩ := boxed W3 #[.int .i64 0, .int .i64 0, .int .i64 0, .int .i64 0, .int .i64 0, .int .i64 0, .int .u32 0, .int .u32 0, .slice none 0 0] #[.int .i64 0, .int .i64 z0, .int .i64 0, .int .i64 (size : Nat), .int .i64 (age : Nat), .int .i64 0, .int .u32 0, .int .u32 0, .slice none 0 0] 37
  generalize World.setRow (World.alloc W3 _) _ _ = Y0 at *
  obtain ⟨q7, hq7⟩ : ∃ q, W3.heap.size = q := ⟨_, rfl⟩
  rw [hq7] at x0 ⊢
  have hA0 : Hid (BlAt Y0 w bp tb cp q7 ⟨⟨0, z0, 0⟩, size, age, 0, 0, 0, 0, fun _ => 0⟩ (.slice none 0 0) (.slice none 0 0)) := hide ⟨(hbath.out.base (by omega)).below x2, OwnZ.nil _ _ _ _ _, fun q hq => by simp [Value.ownBlock] at hq, by rw [rbA_def]; exact x0, hB03.out.trans (x2.mono (by omega)), by omega, by omega, by omega⟩
  have hI0 : Hid (BInv ⟨⟨0, z0, 0⟩, size, age, 0, 0, 0, 0, fun _ => 0⟩ 0 size age) := hide (BInv.start size age z0 s0 s1 ag0 ag1 m0 m1)
  have hgw : Hid (∀ y, Below w.heap.size w y → GopsAt y a1 len1 g) := hide (fun y hy => hgh.out.below hy)
  clear x0 x1 x2 hbath
  go_upto_region 11 with (fail)
  go_loopw [8, 9] (fun v8 v9 wr => ∃ (i f : Nat) (s : GbS) (v v2 : Value), i ≤ 60 ∧ v9 = .int .i64 (i : Nat) ∧ v8 = .int .i64 (f : Nat) ∧ f ≤ i ∧ Hid (BInv s f size age) ∧ Hid (BlAt wr w bp tb cp q7 s v v2)) (fun _ v9 _ => 60 - (intOf v9).toNat)
  case atStart => exact ⟨0, 0, _, _, _, by omega, rfl, rfl, by omega, hI0, hA0⟩
  case round =>
    obtain ⟨i, f, s, v, v2, hi60, rfl, rfl, hfi, hI, hA⟩ := hrel
    clear hI0 hA0
    by_cases hrun : i < len1 ∧ i < 60
    · obtain ⟨hil, hi6⟩ := hrun
      have i1 : (i : Int) < (len1 : Int) := by omega
      have i2 : (i : Int) < 60 := by omega
      obtain ⟨b, off, rfl, c0, c1, c2, hx⟩ := hgw.out wr hA.out.lo i hil
      obtain ⟨tk, hte⟩ : ∃ tk, (g i).tick = tk := ⟨_, rfl⟩
      obtain ⟨xi, hxe⟩ : ∃ xi, (g i).inp = xi := ⟨_, rfl⟩
      obtain ⟨L, hLe⟩ : ∃ L, (g i).loss = L := ⟨_, rfl⟩
      rw [hte] at c0
      rw [hxe] at c1 hx
      rw [hLe] at c2
      clear hte hxe hLe
      go_upto_region 14 with (fail)
      have p0 := last_block0 wr (.cells #[.bool tk, .int .u16 (xi : Nat), .int .i64 L] 41) _ rfl
      have pB := below_one wr (.cells #[.bool tk, .int .u16 (xi : Nat), .int .i64 L] 41)
      generalize World.alloc wr _ = P1 at *
      obtain ⟨q10, hq10⟩ : ∃ q, wr.heap.size = q := ⟨_, rfl⟩
      rw [hq10] at p0 ⊢
      have hA1 := Lib.hid (hA.out.below pB)
      have h10 : Hid (∀ y, Below P1.heap.size P1 y → y.cell? ⟨q10, 0, none⟩ = some (.bool tk) ∧ y.cell? ⟨q10, 1, none⟩ = some (.int .u16 (xi : Nat)) ∧ y.cell? ⟨q10, 2, none⟩ = some (.int .i64 L)) := hide (fun y hy => by
        have e := (hy.block _ (Array.getElem?_eq_some_iff.1 p0).1).trans p0
        exact ⟨(cell_of_block e).trans rfl, (cell_of_block e).trans rfl, (cell_of_block e).trans rfl⟩)
      obtain ⟨_, _, d2⟩ := h10.out P1 (Below.refl _ _)
      have hb7 := blk_of hA1.out.box
      have hol : s.old < s.age := by have := hI.out.ag; have := hI.out.ho; omega
      have hnl : s.n < s.size := by have := hI.out.sz; have := hI.out.hn; omega
      have hlP1 := hA1.out.lo.size
      have hq7P := hA1.out.box
      have hq7l : q7 < P1.heap.size := (Array.getElem?_eq_some_iff.1 hq7P).1
      clear p0 pB hq10 hA c0 c1 c2 hq7P
      go_wp2_with fail
      refine (r_tick17 w.heap.size s v2 L P1 hA1.out.own hI.out.ok hol).mono ?_
      rintro e W2 hp
      obtain ⟨v3, row, bt, rfl, hb2, ⟨sv3, c3, rfl⟩, hsz5, hpl5, hmk⟩ := NxAt.make hA1.out hp
      have hIt := Lib.hid (hI.out.tick L (by omega))
      have hmkh := Lib.hid hmk
      have hb2h := Lib.hid hb2
      have hs2 := hb2.size
      have hst : Hid (gbTick s L = ((gbTick s L).1, (gbTick s L).2)) := hide rfl
      clear hp hmk hb2 d2 hb7
      generalize (gbTick s L).2 = ot at *
      generalize (gbTick s L).1 = st at *
      have hpl9 := rbA_plain st sv3 st.n c3
      go_upto_region 15 with (fail)
      obtain ⟨x0, x1, x2, x3⟩ := boxed2 W2 #[.int .i64 0, .int .i64 0, .int .i64 0, .int .i64 0, .int .i64 0, .int .i64 0, .int .u32 0, .int .u32 0, .slice none 0 0] #[.int .u32 0, .int .u32 0, .int .i64 0, .int .i64 0, .slice none 0 0] (rbA st (.slice sv3 st.n c3)) row 37 44
      generalize World.setRow (World.setRow (World.alloc (World.alloc W2 _) _) _ _) _ _ = V at *
      obtain ⟨q11, hq11⟩ : ∃ q, W2.heap.size = q := ⟨_, rfl⟩
      rw [hq11] at x0 x1 ⊢
      have l11 : w.heap.size ≤ q11 := by omega
      have l12 : w.heap.size ≤ q11 + 1 := by omega
      have n711 : q7 ≠ q11 := by omega
      have hNV := Lib.hid (hmkh.out V q11 (q11 + 1) x3 x0 x1 l11 l12)
      have hPV := Lib.hid (hb2h.out.trans (x3.mono (by omega)))
      have hq11P : P1.heap.size ≤ q11 := by omega
      obtain ⟨q12, hq12⟩ : ∃ q, q11 + 1 = q := ⟨_, rfl⟩
      rw [hq12] at hNV l12 ⊢
      have hq12P : P1.heap.size ≤ q12 := by omega
      obtain ⟨e0, e1, e2⟩ := h10.out V hPV.out
      clear x0 x1 x2 x3 hmkh hb2h hpl9 hpl5 hq12 hq11
      go_upto_if 101 with (fail)
      go_cut [8, 13] (fun v8 v13 wx => ∃ (f' : Nat) (s' : GbS) (sv3 : Option Addr) (c3 : Nat) (o : Option (Nat × Nat × Nat × Nat × (Nat → Nat))) (row : Array Value) (b : Bool), v8 = .int .i64 (f' : Nat) ∧ f' ≤ i + 1 ∧ v13 = .bool b ∧ Hid (NxAt wx w bp tb cp q7 q11 q12 s s' v v2 (.slice sv3 s'.n c3) o row b) ∧ Hid (Below P1.heap.size P1 wx) ∧ Hid (BInv s' f' size age) ∧ Hid ((if tk then gbTick s L else gbAdd s xi L) = (s', o)) ∧ Hid (∀ y, o = some y → y.2.2.1 + y.2.2.2.1 ≤ 1000000))
      case first =>
        cases tk with
        | true =>
          have hsm : Hid (∀ y, ot = some y → y.2.2.1 + y.2.2.2.1 ≤ 1000000) := hide (by have h := hI.out.tick_small L; rw [hst.out] at h; exact h)
          go_wp2_with fail
          go_meet
          exact ⟨f, st, sv3, c3, ot, row, bt, rfl, by omega, rfl, hNV, hPV, hIt, hide (by first | (rw [if_pos rfl]; exact hst.out) | (rw [if_pos trivial]; exact hst.out)), hsm⟩
        | false =>
          have hb7 := blk_of hNV.out.bl.box
          go_wp2_with fail
          refine (r_add17 w.heap.size s v2 xi L V hNV.out.bl.own hI.out.ok hx hnl hNV.out.bl.lo.size).mono ?_
          rintro e W3 hp
          obtain ⟨v4, row4, b4, rfl, hb3, ⟨sv4, c4, rfl⟩, hsz4, hpl4, k11, k12, hNA⟩ := NxAt.again hNV.out.bl hp hNV.out.b11 hNV.out.b12 l11 l12 n711
          have hIa := Lib.hid (hI.out.add xi hx L (by omega))
          have hsm := Lib.hid (hI.out.add_small xi hx L)
          have hsa : Hid (gbAdd s xi L = ((gbAdd s xi L).1, (gbAdd s xi L).2)) := hide rfl
          have hPA := Lib.hid (below_setRow (below_setRow (hPV.out.trans (hb3.mono hPV.out.size)) hq11P (rbA (gbAdd s xi L).1 (.slice sv4 (gbAdd s xi L).1.n c4))) hq12P row4)
          have hNAh := Lib.hid hNA
          have j11 := blk_of k11
          have j12 := blk_of k12
          have n12 : q12 ≠ q11 := ty_ne k12 k11 (by decide)
          clear hp hb3 hNA hb7 e0 e1 e2 hNV hIt hst k11 k12
          generalize (gbAdd s xi L).2 = oa at *
          generalize (gbAdd s xi L).1 = sa at *
          have hpl9 := rbA_plain sa sv4 sa.n c4
          go_wp2_with fail
          go_meet
          exact ⟨f + 1, sa, sv4, c4, oa, row4, b4, by go_num, by omega, rfl, hNAh, hPA, hIa, hide (by first | (rw [if_neg (by decide)]; exact hsa.out) | (rw [if_neg not_false]; exact hsa.out)), hsm⟩
      case rest =>
        obtain ⟨f', s', sv3, c3, o, row, b, rfl, hf', rfl, hN, hPB, hI', hso, hsm⟩ := hcut
        clear hNV hPV hIt hst e0 e1 e2
        go_upto_region 19 with (fail)
        obtain ⟨x0, x1, x2⟩ := boxed wc #[.int .u32 0, .int .u32 0, .int .i64 0, .int .i64 0, .slice none 0 0] #[.int .u32 0, .int .u32 0, .int .i64 0, .int .i64 0, .slice none 0 0] 48
        generalize World.setRow (World.alloc wc _) _ _ = P at *
        obtain ⟨q14, hq14⟩ : ∃ q, wc.heap.size = q := ⟨_, rfl⟩
        rw [hq14] at x0 ⊢
        have l14 : w.heap.size ≤ q14 := by have := hN.out.bl.lo.size; omega
        have hNP := Lib.hid (hN.out.below x2)
        have hPP := Lib.hid (hPB.out.trans (x2.mono hPB.out.size))
        have x0h := Lib.hid x0
        obtain ⟨e0, e1, e2⟩ := h10.out P hPP.out
        clear x0 x1 x2 hq14 hN hPB
        go_upto_if 116 with (fail)
        go_cut [15] (fun v15 wx => ∃ (v' : Value) (row2 : Array Value), v15 = .bool b ∧ Hid (DnAt wx w bp tb cp q7 q11 q12 q14 s' v' (.slice sv3 s'.n c3) o row row2 b))
        case first =>
          cases tk with
          | true =>
            have hs2 := hso.out
            first | rw [if_pos rfl] at hs2 | rw [if_pos trivial] at hs2
            have ktk := Lib.hid (b_tick bp tb cp w.heap.size s v L P hNP.out.bl.bat hI.out.ok hol)
            rw [hs2] at ktk
            clear hs2
            go_wp2_with fail
            refine ktk.out.mono ?_
            rintro e P2 hp
            obtain ⟨v', row2, rfl, k14, hsz4, hpl4, hlo2, hD⟩ := DnAt.make hNP.out x0h.out l14 hp
            have j14 := blk_of k14
            have hDh := Lib.hid hD
            clear hp hD k14 e0 e1 e2
            go_wp2_with fail
            go_meet
            exact ⟨v', row2, rfl, hDh⟩
          | false =>
            have hs2 := hso.out
            first | rw [if_neg (by decide)] at hs2 | rw [if_neg not_false] at hs2
            have ktk := Lib.hid (b_add bp tb cp w.heap.size s v xi L P hNP.out.bl.bat hI.out.ok hx hnl hNP.out.bl.lo.size)
            rw [hs2] at ktk
            clear hs2
            go_wp2_with fail
            refine ktk.out.mono ?_
            rintro e P2 hp
            obtain ⟨v', row2, rfl, k14, hsz4, hpl4, hlo2, hD⟩ := DnAt.make hNP.out x0h.out l14 hp
            have j14 := blk_of k14
            have hDh := Lib.hid hD
            clear hp hD k14 e0 e1 e2
            go_wp2_with fail
            go_meet
            exact ⟨v', row2, rfl, hDh⟩
        case rest =>
          obtain ⟨v', row2, rfl, hD⟩ := hcut
          obtain ⟨C7, k7, k7s⟩ := hD.out.b7
          have j7 := blk_of k7
          have j11 := blk_of hD.out.b11
          have hpl9 := rbA_plain s' sv3 s'.n c3
          obtain ⟨f1, f2, f3, f4, f5⟩ := hD.out.fin
          have f1h := Lib.hid f1
          have f2h := Lib.hid f2
          have f3h := Lib.hid f3
          have f4h := Lib.hid f4
          have f5h := Lib.hid f5
          clear f1 f2 f3 f4 f5 k7 hNP hPP x0h e0 e1 e2 hD
          go_upto_region 23 with (fail)
          clear j7 j11 hpl9 k7s
          generalize World.setRow wc _ _ = F at *
          have hm60 : f' ≤ 60 := by omega
          obtain ⟨n', hn'⟩ : ∃ n, s'.n = n := ⟨_, rfl⟩
          obtain ⟨no', hno'⟩ : ∃ n, s'.no = n := ⟨_, rfl⟩
          have hbat := f1h.out.bat
          have kwt := Lib.hid (fun x (hx : blk x q14 = some (.cells row2 48 (0, 0)) ∧ blk x q12 = some (.cells row 44 (0, 0)) ∧ x.cell? ⟨q7, 8, none⟩ = some (.slice sv3 n' c3) ∧ x.cell? ⟨q7, 6, none⟩ = some (.int .u32 (no' : Nat)) ∧ Below F.heap.size F x) => ret_eq (b_waiting bp tb cp w.heap.size s' v' x (hbat.below hx.2.2.2.2)))
          have kgp := Lib.hid (fun x (hx : blk x q14 = some (.cells row2 48 (0, 0)) ∧ blk x q12 = some (.cells row 44 (0, 0)) ∧ x.cell? ⟨q7, 8, none⟩ = some (.slice sv3 n' c3) ∧ x.cell? ⟨q7, 6, none⟩ = some (.int .u32 (no' : Nat)) ∧ Below F.heap.size F x) => ret_eq (b_groups bp tb cp w.heap.size s' v' x (hbat.below hx.2.2.2.2) hI'.out.ok.no))
          have kfr : Hid (∀ x, (blk x q14 = some (.cells row2 48 (0, 0)) ∧ blk x q12 = some (.cells row 44 (0, 0)) ∧ x.cell? ⟨q7, 8, none⟩ = some (.slice sv3 n' c3) ∧ x.cell? ⟨q7, 6, none⟩ = some (.int .u32 (no' : Nat)) ∧ Below F.heap.size F x) → Calls Try.prog 17 #[.pointer (some ⟨bp, 0, none⟩)] x (Ret x (.int .i64 (f' : Nat)))) := hide (fun x hx => by
            have h := b_frames bp tb cp w.heap.size s' v' x (hbat.below hx.2.2.2.2) hI'.out.ok.fi hI'.out.ok.n
            rw [hI'.out.ff] at h
            exact h)
          have krf := Lib.hid (fun x => out_ref f3h.out x)
          have ksm := Lib.hid (fun x (hx : blk x q14 = some (.cells row2 48 (0, 0)) ∧ blk x q12 = some (.cells row 44 (0, 0)) ∧ x.cell? ⟨q7, 8, none⟩ = some (.slice sv3 n' c3) ∧ x.cell? ⟨q7, 6, none⟩ = some (.int .u32 (no' : Nat)) ∧ Below F.heap.size F x) => out_same (f3h.out.below hx.2.2.2.2) (f2h.out.below hx.2.2.2.2) hsm.out)
          have hnoB := hI'.out.ok.no
          have g8 : Hid (F.cell? ⟨q7, 8, none⟩ = some (.slice sv3 s'.n c3)) := hide ((cell_of_block f1h.out.box).trans (rbA_8 _ _))
          have g6 : Hid (F.cell? ⟨q7, 6, none⟩ = some (.int .u32 (s'.no : Nat))) := hide ((cell_of_block f1h.out.box).trans (rbA_6 _ _))
          rw [hn'] at kwt g8
          rw [hno'] at kgp g6 hnoB
          have hSh : Hid (∀ y, Below F.heap.size F y → blk y q14 = some (.cells row2 48 (0, 0)) ∧ blk y q12 = some (.cells row 44 (0, 0)) ∧ y.cell? ⟨q7, 8, none⟩ = some (.slice sv3 n' c3) ∧ y.cell? ⟨q7, 6, none⟩ = some (.int .u32 (no' : Nat)) ∧ Below F.heap.size F y) := hide (fun y hy => ⟨blk_of ((hy.block _ (Array.getElem?_eq_some_iff.1 f5h.out).1).trans f5h.out), blk_of ((hy.block _ (Array.getElem?_eq_some_iff.1 f4h.out).1).trans f4h.out), (hy.cell (cell_block_lt g8.out)).trans g8.out, (hy.cell (cell_block_lt g6.out)).trans g6.out, hy⟩)
          have hclh := Lib.hid (fun (x x' : World) (h : blk x q14 = some (.cells row2 48 (0, 0)) ∧ blk x q12 = some (.cells row 44 (0, 0)) ∧ x.cell? ⟨q7, 8, none⟩ = some (.slice sv3 n' c3) ∧ x.cell? ⟨q7, 6, none⟩ = some (.int .u32 (no' : Nat)) ∧ Below F.heap.size F x) (hb : Below x.heap.size x x') => hSh.out x' (below_step h.2.2.2.2 h.2.2.2.2.size hb))
          have hwno : IntKind.i64.wrap (no' : Int) = (no' : Int) := IntWalk.i64_in _ (by omega)
          have z1 : (b != b) = false := by simp
          have z2 := beq_self_i3 (n' : Int)
          have z3 := beq_self_i3 (no' : Int)
          have z4 := beq_self_i3 (f' : Int)
          have hsz2 := f3h.out.size.1
          have hsz1 := f2h.out.size.1
          clear hbat hn' hno' hnoB
          refine wp_region_quiet (C := (fun y : World => blk y q14 = some (.cells row2 48 (0, 0)) ∧ blk y q12 = some (.cells row 44 (0, 0)) ∧ y.cell? ⟨q7, 8, none⟩ = some (.slice sv3 n' c3) ∧ y.cell? ⟨q7, 6, none⟩ = some (.int .u32 (no' : Nat)) ∧ Below F.heap.size F y)) (by kernel_rfl) (by kernel_rfl) (hSh.out _ (below_drewN (Below.refl _ _) 1)) ?_
          repeat (first
            | (refine q_run (v := ?_) ?_ ?_ ?_
               rotate_left
               · rfl
               · (intro x hSx; (try dsimp only at hSx); go_simp <;> with_reducible rfl)
               simp only [Act.put, List.setIfInBounds_toArray, List.set_cons_zero, List.set_cons_succ])
            | (refine q_skip ?_ ?_
               · rfl
               simp only [Act.put, List.setIfInBounds_toArray, List.set_cons_zero, List.set_cons_succ])
            | (refine q_call (fun x _ => krf.out x) hclh.out ?_ ?_ ?_
               · rfl
               · (intro x hSx; (try dsimp only at hSx); go_simp <;> with_reducible rfl)
               simp only [Act.put, List.setIfInBounds_toArray, List.set_cons_zero, List.set_cons_succ])
            | (refine q_call (fun x hCx => ksm.out x hCx) hclh.out ?_ ?_ ?_
               · rfl
               · (intro x hSx; (try dsimp only at hSx); go_simp <;> with_reducible rfl)
               simp only [Act.put, List.setIfInBounds_toArray, List.set_cons_zero, List.set_cons_succ])
            | (refine q_call (fun x hCx => kwt.out x hCx) hclh.out ?_ ?_ ?_
               · rfl
               · (intro x hSx; (try dsimp only at hSx); go_simp <;> with_reducible rfl)
               simp only [Act.put, List.setIfInBounds_toArray, List.set_cons_zero, List.set_cons_succ])
            | (refine q_call (fun x hCx => kfr.out x hCx) hclh.out ?_ ?_ ?_
               · rfl
               · (intro x hSx; (try dsimp only at hSx); go_simp <;> with_reducible rfl)
               simp only [Act.put, List.setIfInBounds_toArray, List.set_cons_zero, List.set_cons_succ])
            | (refine q_call (fun x hCx => kgp.out x hCx) hclh.out ?_ ?_ ?_
               · rfl
               · (intro x hSx; (try dsimp only at hSx); go_simp <;> with_reducible rfl)
               simp only [Act.put, List.setIfInBounds_toArray, List.set_cons_zero, List.set_cons_succ]))
          refine wpQuiet_nil ?_
          intro x hSx
          have hBx := Lib.hid hSx.2.2.2.2
          have hAx := Lib.hid (f1h.out.below hBx.out)
          clear hSx z1 z2 z3 z4 hwno
          go_wp2_with fail
          go_roundw
          case rel => exact ⟨i + 1, f', s', v', _, by omega, by go_num, rfl, by omega, hI', hAx⟩
          case measure => simp [intOf]; omega
    · have hex : (decide ((i : Int) < (len1 : Int)) = false ∧ decide (i < len1) = false) ∨ ((i : Int) < (len1 : Int) ∧ decide ((i : Int) < 60) = false ∧ decide (i < 60) = false) := by
        by_cases h : i < len1
        · exact .inr ⟨by omega, decide_eq_false (by omega), decide_eq_false (by omega)⟩
        · exact .inl ⟨decide_eq_false (by omega), decide_eq_false h⟩
      have hBr := Lib.hid hA.out.lo
      clear hrun hA hI
      rcases hex with ⟨i1, i2⟩ | ⟨i1, i2, i3⟩ <;>
      · go_wp2_with fail
        go_ret
        exact ⟨rfl, hBr.out⟩
end Go.Proofs.Ytipfoclmdbbjiaa

import Derived.Test.YtipfoclmdbbjiaaGrAll
import Derived.Test.YtipfoclmdbbjiaaGrTell
import Derived.Deep.QuietTactic
import Derived.Deep.DeepCutAuto
/- GroupAll: the walk of the law. -/
namespace Go.Proofs.Ytipfoclmdbbjiaa
open Go.RowKit
set_option maxRecDepth 100000 in
theorem beq_self_i2 (n : Int) : (n != n) = false := by simp
attribute [local irreducible] gexp gtbl glog rmul rinv rpow zexp mixF blk wLoad wLoadRes loadAns wStore wStoreRes storeAns Plain flF BRow MRow MAt By IsGf ivS rsF mlF RowsAt paF OwnS SlR dtF inV grD gbClo gbGrp grL inW getN
attribute [local go_sem ↓] ld_g0 sto_g0
attribute [local go_sem] ld_g sto_g loadAns_some storeAns_some gg_size gg_plain blk_alloc_if blk_setRow_if blk_drew_at blk_drewN_at rowPut_some blk_setCell_if cellPut_some
set_option maxRecDepth 100000 in
set_option maxHeartbeats 16000000 in
theorem groupAll_walk (v0 : Value) (a1 : Option Addr) (len1 cap1 : Nat) (w : World) (w0 : IsAgg [some .i64, some .i64, some .i64] v0) (w1 : IsRec [none, some .u16, some .i64] w a1 len1 cap1) :
    Calls Try.prog 6 #[v0, .slice a1 len1 cap1] w fun e w' => e = .returned (.bool true) ∧ Below w.heap.size w w' := by
  obtain ⟨x, y0, z0, rfl, _, _, _⟩ := agg3 w0
  obtain ⟨g, hg⟩ := gops_open w1
  have hlen : len1 ≤ 9223372036854775807 := by obtain ⟨_, _, _, h1, h2, _⟩ := w1; unfold maxLen at h2; omega
  have hgh := Lib.hid hg
  have hz := zeroGG
  have hB0 := below_one w (.cells #[.int .i64 x, .int .i64 y0, .int .i64 z0] 23)
  have b0 := last_block0 w (.cells #[.int .i64 x, .int .i64 y0, .int .i64 z0] 23) _ rfl
  clear w0 w1 hg
  go_enter Try.func6, Try.ntmps6
  go_upto_region 1 with (fail)
  generalize World.alloc w _ = X at *
  have hwX : w.heap.size < X.heap.size := (Array.getElem?_eq_some_iff.1 b0).1
  have b0h := Lib.hid b0
  have hB0h := Lib.hid hB0
  clear b0 hB0
  go_wp2_with fail
  refine (g_awake X).mono ?_
  rintro e W1 ⟨rfl, hb1⟩
  have hB1 := Lib.hid (hB0h.out.trans (hb1.mono (by omega)))
  have hbx : Hid (∀ y, Below W1.heap.size W1 y → y.heap[w.heap.size]? = some (.cells #[.int .i64 x, .int .i64 y0, .int .i64 z0] 23 (0, 0))) := hide (fun y hy => (hy.block _ (by have := hb1.size; omega)).trans ((hb1.block _ hwX).trans b0h.out))
  have hS : Hid (∀ y, Below W1.heap.size W1 y → (fun y : World => y.cell? ⟨w.heap.size, 0, none⟩ = some (.int .i64 x) ∧ y.cell? ⟨w.heap.size, 1, none⟩ = some (.int .i64 y0) ∧ y.cell? ⟨w.heap.size, 2, none⟩ = some (.int .i64 z0)) y) := hide (fun y hy => ⟨(cell_of_block (hbx.out y hy)).trans rfl, (cell_of_block (hbx.out y hy)).trans rfl, (cell_of_block (hbx.out y hy)).trans rfl⟩)
  have hs1 : w.heap.size < W1.heap.size := by have := hb1.size; omega
  clear hb1
  go_upto_region 3 with (fail)
  have hBd : Hid (Below W1.heap.size W1 W1.drew) := hide (below_drewN (Below.refl _ _) 1)
  have hHeld : (fun y : World => y.cell? ⟨w.heap.size, 0, none⟩ = some (.int .i64 x) ∧ y.cell? ⟨w.heap.size, 1, none⟩ = some (.int .i64 y0) ∧ y.cell? ⟨w.heap.size, 2, none⟩ = some (.int .i64 z0)) W1.drew := hS.out _ hBd.out
  refine h_begin 13 (fun y : World => y.cell? ⟨w.heap.size, 0, none⟩ = some (.int .i64 x) ∧ y.cell? ⟨w.heap.size, 1, none⟩ = some (.int .i64 y0) ∧ y.cell? ⟨w.heap.size, 2, none⟩ = some (.int .i64 z0)) rfl (by kernel_rfl) hHeld ?_
  first
    | (refine h_run (i := 1) (v := ?_) hHeld rfl (by kernel_rfl) (by kernel_rfl) (by kernel_rfl) ?_ ?_ ?_
       rotate_left
       · rfl
       · (intro x hSx; (try dsimp only at hSx); go_simp <;> with_reducible rfl)
       simp only [Act.put, List.setIfInBounds_toArray, List.set_cons_zero, List.set_cons_succ])
    | (refine h_skip (i := 1) hHeld rfl (by kernel_rfl) (by kernel_rfl) (by kernel_rfl) ?_ ?_
       · rfl
       simp only [Act.put, List.setIfInBounds_toArray, List.set_cons_zero, List.set_cons_succ])
  first
    | (refine h_run (i := 2) (v := ?_) hHeld rfl (by kernel_rfl) (by kernel_rfl) (by kernel_rfl) ?_ ?_ ?_
       rotate_left
       · rfl
       · (intro x hSx; (try dsimp only at hSx); go_simp <;> with_reducible rfl)
       simp only [Act.put, List.setIfInBounds_toArray, List.set_cons_zero, List.set_cons_succ])
    | (refine h_skip (i := 2) hHeld rfl (by kernel_rfl) (by kernel_rfl) (by kernel_rfl) ?_ ?_
       · rfl
       simp only [Act.put, List.setIfInBounds_toArray, List.set_cons_zero, List.set_cons_succ])
  first
    | (refine h_run (i := 3) (v := ?_) hHeld rfl (by kernel_rfl) (by kernel_rfl) (by kernel_rfl) ?_ ?_ ?_
       rotate_left
       · rfl
       · (intro x hSx; (try dsimp only at hSx); go_simp <;> with_reducible rfl)
       simp only [Act.put, List.setIfInBounds_toArray, List.set_cons_zero, List.set_cons_succ])
    | (refine h_skip (i := 3) hHeld rfl (by kernel_rfl) (by kernel_rfl) (by kernel_rfl) ?_ ?_
       · rfl
       simp only [Act.put, List.setIfInBounds_toArray, List.set_cons_zero, List.set_cons_succ])
  first
    | (refine h_run (i := 4) (v := ?_) hHeld rfl (by kernel_rfl) (by kernel_rfl) (by kernel_rfl) ?_ ?_ ?_
       rotate_left
       · rfl
       · (intro x hSx; (try dsimp only at hSx); go_simp <;> with_reducible rfl)
       simp only [Act.put, List.setIfInBounds_toArray, List.set_cons_zero, List.set_cons_succ])
    | (refine h_skip (i := 4) hHeld rfl (by kernel_rfl) (by kernel_rfl) (by kernel_rfl) ?_ ?_
       · rfl
       simp only [Act.put, List.setIfInBounds_toArray, List.set_cons_zero, List.set_cons_succ])
  first
    | (refine h_run (i := 5) (v := ?_) hHeld rfl (by kernel_rfl) (by kernel_rfl) (by kernel_rfl) ?_ ?_ ?_
       rotate_left
       · rfl
       · (intro x hSx; (try dsimp only at hSx); go_simp <;> with_reducible rfl)
       simp only [Act.put, List.setIfInBounds_toArray, List.set_cons_zero, List.set_cons_succ])
    | (refine h_skip (i := 5) hHeld rfl (by kernel_rfl) (by kernel_rfl) (by kernel_rfl) ?_ ?_
       · rfl
       simp only [Act.put, List.setIfInBounds_toArray, List.set_cons_zero, List.set_cons_succ])
  first
    | (refine h_run (i := 6) (v := ?_) hHeld rfl (by kernel_rfl) (by kernel_rfl) (by kernel_rfl) ?_ ?_ ?_
       rotate_left
       · rfl
       · (intro x hSx; (try dsimp only at hSx); go_simp <;> with_reducible rfl)
       simp only [Act.put, List.setIfInBounds_toArray, List.set_cons_zero, List.set_cons_succ])
    | (refine h_skip (i := 6) hHeld rfl (by kernel_rfl) (by kernel_rfl) (by kernel_rfl) ?_ ?_
       · rfl
       simp only [Act.put, List.setIfInBounds_toArray, List.set_cons_zero, List.set_cons_succ])
  clear hHeld
  refine h_call (i := 0) (fun y : World => y.cell? ⟨w.heap.size, 0, none⟩ = some (.int .i64 x) ∧ y.cell? ⟨w.heap.size, 1, none⟩ = some (.int .i64 y0) ∧ y.cell? ⟨w.heap.size, 2, none⟩ = some (.int .i64 z0)) (fun _ h => h) (gf_new_below W1.drew) rfl (by kernel_rfl) rfl ?_ ?_
  · go_simp <;> with_reducible rfl
  rintro e W2 ⟨rfl, hgf, hb2⟩
  have hgfh := Lib.hid hgf
  have hB2 := Lib.hid (hBd.out.trans (hb2.mono hBd.out.size))
  generalize W1.drew.heap.size = tb at *
  refine ⟨_, rfl, hS.out _ hB2.out, ?_⟩
  clear hgf hb2
  by_cases hr : x < 1 ∨ 16 < x ∨ y0 < 1 ∨ 4096 < y0 ∨ z0 < 0 ∨ 16 < z0
  · refine h_call (i := 7) (fun y : World => y.cell? ⟨w.heap.size, 0, none⟩ = some (.int .i64 x) ∧ y.cell? ⟨w.heap.size, 1, none⟩ = some (.int .i64 y0) ∧ y.cell? ⟨w.heap.size, 2, none⟩ = some (.int .i64 z0)) (fun _ h => h) (g_new_no tb x y0 z0 W2 hr) rfl (by kernel_rfl) rfl ?_ ?_
    · go_simp <;> with_reducible rfl
    rintro e W3 ⟨rfl, rfl⟩
    have hHeld : (fun y : World => y.cell? ⟨w.heap.size, 0, none⟩ = some (.int .i64 x) ∧ y.cell? ⟨w.heap.size, 1, none⟩ = some (.int .i64 y0) ∧ y.cell? ⟨w.heap.size, 2, none⟩ = some (.int .i64 z0)) W2 := hS.out _ hB2.out
    refine ⟨_, rfl, hHeld, ?_⟩
    first
      | (refine h_run (i := 8) (v := ?_) hHeld rfl (by kernel_rfl) (by kernel_rfl) (by kernel_rfl) ?_ ?_ ?_
         rotate_left
         · rfl
         · (intro x hSx; (try dsimp only at hSx); go_simp <;> with_reducible rfl)
         simp only [Act.put, List.setIfInBounds_toArray, List.set_cons_zero, List.set_cons_succ])
      | (refine h_skip (i := 8) hHeld rfl (by kernel_rfl) (by kernel_rfl) (by kernel_rfl) ?_ ?_
         · rfl
         simp only [Act.put, List.setIfInBounds_toArray, List.set_cons_zero, List.set_cons_succ])
    first
      | (refine h_run (i := 9) (v := ?_) hHeld rfl (by kernel_rfl) (by kernel_rfl) (by kernel_rfl) ?_ ?_ ?_
         rotate_left
         · rfl
         · (intro x hSx; (try dsimp only at hSx); go_simp <;> with_reducible rfl)
         simp only [Act.put, List.setIfInBounds_toArray, List.set_cons_zero, List.set_cons_succ])
      | (refine h_skip (i := 9) hHeld rfl (by kernel_rfl) (by kernel_rfl) (by kernel_rfl) ?_ ?_
         · rfl
         simp only [Act.put, List.setIfInBounds_toArray, List.set_cons_zero, List.set_cons_succ])
    first
      | (refine h_run (i := 10) (v := ?_) hHeld rfl (by kernel_rfl) (by kernel_rfl) (by kernel_rfl) ?_ ?_ ?_
         rotate_left
         · rfl
         · (intro x hSx; (try dsimp only at hSx); go_simp <;> with_reducible rfl)
         simp only [Act.put, List.setIfInBounds_toArray, List.set_cons_zero, List.set_cons_succ])
      | (refine h_skip (i := 10) hHeld rfl (by kernel_rfl) (by kernel_rfl) (by kernel_rfl) ?_ ?_
         · rfl
         simp only [Act.put, List.setIfInBounds_toArray, List.set_cons_zero, List.set_cons_succ])
    first
      | (refine h_run (i := 11) (v := ?_) hHeld rfl (by kernel_rfl) (by kernel_rfl) (by kernel_rfl) ?_ ?_ ?_
         rotate_left
         · rfl
         · (intro x hSx; (try dsimp only at hSx); go_simp <;> with_reducible rfl)
         simp only [Act.put, List.setIfInBounds_toArray, List.set_cons_zero, List.set_cons_succ])
      | (refine h_skip (i := 11) hHeld rfl (by kernel_rfl) (by kernel_rfl) (by kernel_rfl) ?_ ?_
         · rfl
         simp only [Act.put, List.setIfInBounds_toArray, List.set_cons_zero, List.set_cons_succ])
    first
      | (refine h_run (i := 12) (v := ?_) hHeld rfl (by kernel_rfl) (by kernel_rfl) (by kernel_rfl) ?_ ?_ ?_
         rotate_left
         · rfl
         · (intro x hSx; (try dsimp only at hSx); go_simp <;> with_reducible rfl)
         simp only [Act.put, List.setIfInBounds_toArray, List.set_cons_zero, List.set_cons_succ])
      | (refine h_skip (i := 12) hHeld rfl (by kernel_rfl) (by kernel_rfl) (by kernel_rfl) ?_ ?_
         · rfl
         simp only [Act.put, List.setIfInBounds_toArray, List.set_cons_zero, List.set_cons_succ])
    refine h_done (by kernel_rfl) ?_
    have hBf := Lib.hid (hB1.out.trans (hB2.out.mono (by omega)))
    clear hHeld hr
    go_wp2_with fail
    go_ret
    exact ⟨rfl, hBf.out⟩
  obtain ⟨size, hxe⟩ : ∃ n : Nat, x = n := ⟨x.toNat, by omega⟩
  obtain ⟨age, hye⟩ : ∃ n : Nat, y0 = n := ⟨y0.toNat, by omega⟩
  subst hxe hye
  have hr1 : 1 ≤ size ∧ size ≤ 16 ∧ 1 ≤ age ∧ age ≤ 4096 ∧ 0 ≤ z0 ∧ z0 ≤ 16 := by omega
  obtain ⟨s0, s1, ag0, ag1, m0, m1⟩ := hr1
  clear hr
  refine h_call (i := 7) (fun y : World => y.cell? ⟨w.heap.size, 0, none⟩ = some (.int .i64 (size : Nat)) ∧ y.cell? ⟨w.heap.size, 1, none⟩ = some (.int .i64 (age : Nat)) ∧ y.cell? ⟨w.heap.size, 2, none⟩ = some (.int .i64 z0)) (fun _ h => h) (g_new tb size age z0 W2 hgfh.out s0 s1 ag0 ag1 m0 m1) rfl (by kernel_rfl) rfl ?_ ?_
  · go_simp <;> with_reducible rfl
  rintro e W3 ⟨bp, cp, rfl, hbat, hb3, hbp, hcp⟩
  have hB3 := Lib.hid (hB2.out.trans (hb3.mono hB2.out.size))
  have hbath := Lib.hid hbat
  have hHeld : (fun y : World => y.cell? ⟨w.heap.size, 0, none⟩ = some (.int .i64 (size : Nat)) ∧ y.cell? ⟨w.heap.size, 1, none⟩ = some (.int .i64 (age : Nat)) ∧ y.cell? ⟨w.heap.size, 2, none⟩ = some (.int .i64 z0)) W3 := hS.out _ hB3.out
  refine ⟨_, rfl, hHeld, ?_⟩
  clear hbat hb3
  first
    | (refine h_run (i := 8) (v := ?_) hHeld rfl (by kernel_rfl) (by kernel_rfl) (by kernel_rfl) ?_ ?_ ?_
       rotate_left
       · rfl
       · (intro x hSx; (try dsimp only at hSx); go_simp <;> with_reducible rfl)
       simp only [Act.put, List.setIfInBounds_toArray, List.set_cons_zero, List.set_cons_succ])
    | (refine h_skip (i := 8) hHeld rfl (by kernel_rfl) (by kernel_rfl) (by kernel_rfl) ?_ ?_
       · rfl
       simp only [Act.put, List.setIfInBounds_toArray, List.set_cons_zero, List.set_cons_succ])
  first
    | (refine h_run (i := 9) (v := ?_) hHeld rfl (by kernel_rfl) (by kernel_rfl) (by kernel_rfl) ?_ ?_ ?_
       rotate_left
       · rfl
       · (intro x hSx; (try dsimp only at hSx); go_simp <;> with_reducible rfl)
       simp only [Act.put, List.setIfInBounds_toArray, List.set_cons_zero, List.set_cons_succ])
    | (refine h_skip (i := 9) hHeld rfl (by kernel_rfl) (by kernel_rfl) (by kernel_rfl) ?_ ?_
       · rfl
       simp only [Act.put, List.setIfInBounds_toArray, List.set_cons_zero, List.set_cons_succ])
  first
    | (refine h_run (i := 10) (v := ?_) hHeld rfl (by kernel_rfl) (by kernel_rfl) (by kernel_rfl) ?_ ?_ ?_
       rotate_left
       · rfl
       · (intro x hSx; (try dsimp only at hSx); go_simp <;> with_reducible rfl)
       simp only [Act.put, List.setIfInBounds_toArray, List.set_cons_zero, List.set_cons_succ])
    | (refine h_skip (i := 10) hHeld rfl (by kernel_rfl) (by kernel_rfl) (by kernel_rfl) ?_ ?_
       · rfl
       simp only [Act.put, List.setIfInBounds_toArray, List.set_cons_zero, List.set_cons_succ])
  first
    | (refine h_run (i := 11) (v := ?_) hHeld rfl (by kernel_rfl) (by kernel_rfl) (by kernel_rfl) ?_ ?_ ?_
       rotate_left
       · rfl
       · (intro x hSx; (try dsimp only at hSx); go_simp <;> with_reducible rfl)
       simp only [Act.put, List.setIfInBounds_toArray, List.set_cons_zero, List.set_cons_succ])
    | (refine h_skip (i := 11) hHeld rfl (by kernel_rfl) (by kernel_rfl) (by kernel_rfl) ?_ ?_
       · rfl
       simp only [Act.put, List.setIfInBounds_toArray, List.set_cons_zero, List.set_cons_succ])
  first
    | (refine h_run (i := 12) (v := ?_) hHeld rfl (by kernel_rfl) (by kernel_rfl) (by kernel_rfl) ?_ ?_ ?_
       rotate_left
       · rfl
       · (intro x hSx; (try dsimp only at hSx); go_simp <;> with_reducible rfl)
       simp only [Act.put, List.setIfInBounds_toArray, List.set_cons_zero, List.set_cons_succ])
    | (refine h_skip (i := 12) hHeld rfl (by kernel_rfl) (by kernel_rfl) (by kernel_rfl) ?_ ?_
       · rfl
       simp only [Act.put, List.setIfInBounds_toArray, List.set_cons_zero, List.set_cons_succ])
  refine h_done (by kernel_rfl) ?_
  clear hHeld
  have hs2 := hB2.out.size
  have hA0 : Hid (AlAt W3 w bp tb cp #[.int .i64 (size : Nat), .int .i64 (age : Nat), .int .i64 z0] ⟨⟨0, z0, 0⟩, size, age, 0, 0, 0, 0, fun _ => 0⟩ (.slice none 0 0) (.slice none 0 0) (.slice none 0 0) 0 0 (fun _ => 0)) := hide ⟨hbath.out.base (by omega), OwnZ.nil _ _ _ _ _, OwnZ.nil _ _ _ _ _, fun q hq => by simp [Value.ownBlock] at hq, fun q hq => by simp [Value.ownBlock] at hq, fun q hq => by simp [Value.ownBlock] at hq, hbx.out _ hB3.out, hB1.out.trans (hB3.out.mono (by omega)), by omega, by omega⟩
  have hI0 : Hid (AInv ⟨⟨0, z0, 0⟩, size, age, 0, 0, 0, 0, fun _ => 0⟩ 0 (fun _ => 0) 0 size age) := hide (AInv.start size age z0 s0 s1 ag0 ag1 m0 m1)
  have hgw : Hid (∀ y, Below w.heap.size w y → GopsAt y a1 len1 g) := hide (fun y hy => hgh.out.below hy)
  clear hbath hgfh hS hbx hB3 hB2 hBd
  go_upto_region 8 with (fail)
  go_loopw [7, 8, 9] (fun v7 v8 v9 wr => ∃ (i : Nat) (s : GbS) (v : Value) (c T : Nat) (C : Nat → Nat), i ≤ 60 ∧ v9 = .int .i64 (i : Nat) ∧ c ≤ i ∧ Hid (AInv s c C T size age) ∧ Hid (AlAt wr w bp tb cp #[.int .i64 (size : Nat), .int .i64 (age : Nat), .int .i64 z0] s v v7 v8 c T C)) (fun _ _ v9 _ => 60 - (intOf v9).toNat)
  case atStart => exact ⟨0, _, _, 0, 0, _, by omega, rfl, by omega, hI0, hA0⟩
  case round =>
    obtain ⟨i, s, v, c, T, C, hi60, rfl, hci, hI, hA⟩ := hrel
    clear hI0 hA0
    by_cases hrun : i < len1 ∧ i < 60
    · obtain ⟨hil, hi6⟩ := hrun
      have i1 : (i : Int) < (len1 : Int) := by omega
      have i2 : (i : Int) < 60 := by omega
      go_upto_region 11 with (fail)
      obtain ⟨x0, x1, x2⟩ := boxed wr #[.int .u32 0, .int .u32 0, .int .i64 0, .int .i64 0, .slice none 0 0] #[.int .u32 0, .int .u32 0, .int .i64 0, .int .i64 0, .slice none 0 0] 48
      generalize World.setRow (World.alloc wr _) _ _ = Y at *
      have hAY := Lib.hid (hA.out.below x2)
      obtain ⟨q, hq⟩ : ∃ q, wr.heap.size = q := ⟨_, rfl⟩
      rw [hq] at x0 ⊢
      have hqw : w.heap.size ≤ q := by have := hA.out.lo.size; omega
      have hx0 := Lib.hid x0
      have hqY : q < Y.heap.size := (Array.getElem?_eq_some_iff.1 x0).1
      clear x0 x1 x2 hq hA
      have hS : Hid (∀ y, Below w.heap.size w y → ∃ b off, a1 = some ⟨b, off, none⟩ ∧ y.cell? ⟨b, off + i * 3, none⟩ = some (.bool (g i).tick) ∧ y.cell? ⟨b, off + i * 3 + 1, none⟩ = some (.int .u16 ((g i).inp : Nat)) ∧ y.cell? ⟨b, off + i * 3 + 2, none⟩ = some (.int .i64 (g i).loss) ∧ (g i).inp < 65536) := hide (fun y hy => hgw.out y hy i hil)
      obtain ⟨tk, hte⟩ : ∃ tk, (g i).tick = tk := ⟨_, rfl⟩
      obtain ⟨xi, hxe⟩ : ∃ xi, (g i).inp = xi := ⟨_, rfl⟩
      obtain ⟨L, hLe⟩ : ∃ L, (g i).loss = L := ⟨_, rfl⟩
      rw [hte, hxe, hLe] at hS
      obtain ⟨b, off, rfl, c0, _, c2, hx⟩ := hS.out Y hAY.out.lo
      have hS2 : Hid (∀ y, Below w.heap.size w y → (fun y : World => y.cell? ⟨b, off + i * 3 + 1, none⟩ = some (.int .u16 (xi : Nat)) ∧ y.cell? ⟨b, off + i * 3 + 2, none⟩ = some (.int .i64 L)) y) := hide (fun y hy => by
        obtain ⟨b2, off2, e, h0, h1, h2, _⟩ := hS.out y hy
        injection e with e
        injection e with e1 e2
        subst e1 e2
        exact ⟨h1, h2⟩)
      clear hte hxe hLe hS
      go_upto_if 51 with (fail)
      go_cut [7, 11] (fun v7 v11 wx => ACut wx w bp tb cp q #[.int .i64 (size : Nat), .int .i64 (age : Nat), .int .i64 z0] i T size age u8 v7 v11)
      case first =>
        cases tk with
        | true =>
          have hpl := hI.out.tick L
          have hol : s.old < s.age := by have := hI.out.ag; have := hI.out.ho; omega
          go_wp2_with fail
          refine (b_tick bp tb cp w.heap.size s v L Y hAY.out.bat hI.out.ok hol).mono ?_
          rintro e w2 hp
          obtain ⟨v', hA2, hout, hk⟩ := hAY.out.call hp
          have hq2 : w2.heap[q]? = _ := (hk.block q hqY (ty_ne hx0.out hAY.out.bat.b (by decide)) (ty_ne hx0.out hAY.out.bat.ct (by decide)) (fun e => hAY.out.bat.own_ne hx0.out (by decide) e)).trans hx0.out
          have bq := blk_of hq2
          generalize gbTick s L = R at *
          obtain ⟨s', o⟩ := R
          rcases o with _ | ⟨no, fi, K, m, I⟩
          · have he : e = .returned (.tuple #[.agg #[.int .u32 0, .int .u32 0, .int .i64 0, .int .i64 0, .slice none 0 0], .bool false]) := hout
            subst he
            have hfin := Lib.hid (ACut.none (i := i) #[.int .u32 0, .int .u32 0, .int .i64 0, .int .i64 0, .slice none 0 0] hA2 hpl (by omega) hq2 hqw)
            clear hpl hp hA2 hout hk hq2 c0 c2
            go_wp2_with fail
            go_meet
            exact hfin.out
          · obtain ⟨sd, cap, rfl, hos⟩ := hout
            have hfin := Lib.hid (ACut.some (i := i) hA2 hpl (by omega) hq2 hqw hos)
            clear hpl hp hA2 hos hk hq2 c0 c2
            go_wp2_with fail
            go_meet
            exact hfin.out
        | false =>
          have hTc : T ≤ c := by have := hI.out.hc; omega
          have c1 := (hS2.out Y hAY.out.lo).1
          have hsz := hAY.out.lo.size
          have hcg : Hid (∀ j, j < c + 1 → (if j = c then (xi : Int) else (C j : Int)) = (((if j = c then xi else C j : Nat)) : Int)) := hide (fun j _ => by split <;> rfl)
          have hC' : Hid (∀ j, j < T → (if j = c then xi else C j) = C j) := hide (fun j hj => if_neg (by omega))
          go_upto_region 14 with (at_builtin; refine wpList_snocZ2 Try.underlying35 infoIn (by decide) rfl (.tmp 62) (.tmp 68) rfl Y _ w.heap.size c (fun j => (C j : Nat)) (xi : Nat) rfl rfl rfl hAY.out.came (by omega) hsz ?_; intro v' w6 ho6 hg6 hf6; have hA6 := Lib.hid (hAY.out.cameS (C' := fun j => if j = c then xi else C j) (ho6.congr hcg.out) hg6 hf6 hC'.out); have hq6 := Lib.hid ((hg6.block q hqY (fun e => own_neZ hAY.out.came hx0.out (by decide) e.symm)).trans hx0.out); clear ho6 hg6 hf6)
          clear c0 c1 c2
          have hpl := hI.out.add xi hx L (by omega)
          have hnl : s.n < s.size := by have := hI.out.sz; have := hI.out.hn; omega
          have hAD := Lib.hid (hA6.out.below (below_drewN (Below.refl _ _) 1))
          have hqD : Hid ((w6.drewN 1).heap[q]? = _) := hide hq6.out
          have hHeld : (fun y : World => y.cell? ⟨b, off + i * 3 + 1, none⟩ = some (.int .u16 (xi : Nat)) ∧ y.cell? ⟨b, off + i * 3 + 2, none⟩ = some (.int .i64 L)) w6.drew := hS2.out _ hAD.out.lo
          refine h_begin 17 (fun y : World => y.cell? ⟨b, off + i * 3 + 1, none⟩ = some (.int .u16 (xi : Nat)) ∧ y.cell? ⟨b, off + i * 3 + 2, none⟩ = some (.int .i64 L)) rfl (by kernel_rfl) hHeld ?_
          first
            | (refine h_run (i := 0) (v := ?_) hHeld rfl (by kernel_rfl) (by kernel_rfl) (by kernel_rfl) ?_ ?_ ?_
               rotate_left
               · rfl
               · (intro x hSx; (try dsimp only at hSx); go_simp <;> with_reducible rfl)
               simp only [Act.put, List.setIfInBounds_toArray, List.set_cons_zero, List.set_cons_succ])
            | (refine h_skip (i := 0) hHeld rfl (by kernel_rfl) (by kernel_rfl) (by kernel_rfl) ?_ ?_
               · rfl
               simp only [Act.put, List.setIfInBounds_toArray, List.set_cons_zero, List.set_cons_succ])
          first
            | (refine h_run (i := 1) (v := ?_) hHeld rfl (by kernel_rfl) (by kernel_rfl) (by kernel_rfl) ?_ ?_ ?_
               rotate_left
               · rfl
               · (intro x hSx; (try dsimp only at hSx); go_simp <;> with_reducible rfl)
               simp only [Act.put, List.setIfInBounds_toArray, List.set_cons_zero, List.set_cons_succ])
            | (refine h_skip (i := 1) hHeld rfl (by kernel_rfl) (by kernel_rfl) (by kernel_rfl) ?_ ?_
               · rfl
               simp only [Act.put, List.setIfInBounds_toArray, List.set_cons_zero, List.set_cons_succ])
          first
            | (refine h_run (i := 2) (v := ?_) hHeld rfl (by kernel_rfl) (by kernel_rfl) (by kernel_rfl) ?_ ?_ ?_
               rotate_left
               · rfl
               · (intro x hSx; (try dsimp only at hSx); go_simp <;> with_reducible rfl)
               simp only [Act.put, List.setIfInBounds_toArray, List.set_cons_zero, List.set_cons_succ])
            | (refine h_skip (i := 2) hHeld rfl (by kernel_rfl) (by kernel_rfl) (by kernel_rfl) ?_ ?_
               · rfl
               simp only [Act.put, List.setIfInBounds_toArray, List.set_cons_zero, List.set_cons_succ])
          first
            | (refine h_run (i := 3) (v := ?_) hHeld rfl (by kernel_rfl) (by kernel_rfl) (by kernel_rfl) ?_ ?_ ?_
               rotate_left
               · rfl
               · (intro x hSx; (try dsimp only at hSx); go_simp <;> with_reducible rfl)
               simp only [Act.put, List.setIfInBounds_toArray, List.set_cons_zero, List.set_cons_succ])
            | (refine h_skip (i := 3) hHeld rfl (by kernel_rfl) (by kernel_rfl) (by kernel_rfl) ?_ ?_
               · rfl
               simp only [Act.put, List.setIfInBounds_toArray, List.set_cons_zero, List.set_cons_succ])
          first
            | (refine h_run (i := 4) (v := ?_) hHeld rfl (by kernel_rfl) (by kernel_rfl) (by kernel_rfl) ?_ ?_ ?_
               rotate_left
               · rfl
               · (intro x hSx; (try dsimp only at hSx); go_simp <;> with_reducible rfl)
               simp only [Act.put, List.setIfInBounds_toArray, List.set_cons_zero, List.set_cons_succ])
            | (refine h_skip (i := 4) hHeld rfl (by kernel_rfl) (by kernel_rfl) (by kernel_rfl) ?_ ?_
               · rfl
               simp only [Act.put, List.setIfInBounds_toArray, List.set_cons_zero, List.set_cons_succ])
          first
            | (refine h_run (i := 5) (v := ?_) hHeld rfl (by kernel_rfl) (by kernel_rfl) (by kernel_rfl) ?_ ?_ ?_
               rotate_left
               · rfl
               · (intro x hSx; (try dsimp only at hSx); go_simp <;> with_reducible rfl)
               simp only [Act.put, List.setIfInBounds_toArray, List.set_cons_zero, List.set_cons_succ])
            | (refine h_skip (i := 5) hHeld rfl (by kernel_rfl) (by kernel_rfl) (by kernel_rfl) ?_ ?_
               · rfl
               simp only [Act.put, List.setIfInBounds_toArray, List.set_cons_zero, List.set_cons_succ])
          first
            | (refine h_run (i := 6) (v := ?_) hHeld rfl (by kernel_rfl) (by kernel_rfl) (by kernel_rfl) ?_ ?_ ?_
               rotate_left
               · rfl
               · (intro x hSx; (try dsimp only at hSx); go_simp <;> with_reducible rfl)
               simp only [Act.put, List.setIfInBounds_toArray, List.set_cons_zero, List.set_cons_succ])
            | (refine h_skip (i := 6) hHeld rfl (by kernel_rfl) (by kernel_rfl) (by kernel_rfl) ?_ ?_
               · rfl
               simp only [Act.put, List.setIfInBounds_toArray, List.set_cons_zero, List.set_cons_succ])
          first
            | (refine h_run (i := 7) (v := ?_) hHeld rfl (by kernel_rfl) (by kernel_rfl) (by kernel_rfl) ?_ ?_ ?_
               rotate_left
               · rfl
               · (intro x hSx; (try dsimp only at hSx); go_simp <;> with_reducible rfl)
               simp only [Act.put, List.setIfInBounds_toArray, List.set_cons_zero, List.set_cons_succ])
            | (refine h_skip (i := 7) hHeld rfl (by kernel_rfl) (by kernel_rfl) (by kernel_rfl) ?_ ?_
               · rfl
               simp only [Act.put, List.setIfInBounds_toArray, List.set_cons_zero, List.set_cons_succ])
          first
            | (refine h_run (i := 8) (v := ?_) hHeld rfl (by kernel_rfl) (by kernel_rfl) (by kernel_rfl) ?_ ?_ ?_
               rotate_left
               · rfl
               · (intro x hSx; (try dsimp only at hSx); go_simp <;> with_reducible rfl)
               simp only [Act.put, List.setIfInBounds_toArray, List.set_cons_zero, List.set_cons_succ])
            | (refine h_skip (i := 8) hHeld rfl (by kernel_rfl) (by kernel_rfl) (by kernel_rfl) ?_ ?_
               · rfl
               simp only [Act.put, List.setIfInBounds_toArray, List.set_cons_zero, List.set_cons_succ])
          first
            | (refine h_run (i := 9) (v := ?_) hHeld rfl (by kernel_rfl) (by kernel_rfl) (by kernel_rfl) ?_ ?_ ?_
               rotate_left
               · rfl
               · (intro x hSx; (try dsimp only at hSx); go_simp <;> with_reducible rfl)
               simp only [Act.put, List.setIfInBounds_toArray, List.set_cons_zero, List.set_cons_succ])
            | (refine h_skip (i := 9) hHeld rfl (by kernel_rfl) (by kernel_rfl) (by kernel_rfl) ?_ ?_
               · rfl
               simp only [Act.put, List.setIfInBounds_toArray, List.set_cons_zero, List.set_cons_succ])
          first
            | (refine h_run (i := 10) (v := ?_) hHeld rfl (by kernel_rfl) (by kernel_rfl) (by kernel_rfl) ?_ ?_ ?_
               rotate_left
               · rfl
               · (intro x hSx; (try dsimp only at hSx); go_simp <;> with_reducible rfl)
               simp only [Act.put, List.setIfInBounds_toArray, List.set_cons_zero, List.set_cons_succ])
            | (refine h_skip (i := 10) hHeld rfl (by kernel_rfl) (by kernel_rfl) (by kernel_rfl) ?_ ?_
               · rfl
               simp only [Act.put, List.setIfInBounds_toArray, List.set_cons_zero, List.set_cons_succ])
          clear hHeld
          refine h_call (i := 11) (fun y : World => y.cell? ⟨b, off + i * 3 + 1, none⟩ = some (.int .u16 (xi : Nat)) ∧ y.cell? ⟨b, off + i * 3 + 2, none⟩ = some (.int .i64 L)) (fun _ h => h) (b_add bp tb cp w.heap.size s v xi L w6.drew hAD.out.bat hI.out.ok hx hnl hAD.out.lo.size) rfl (by kernel_rfl) rfl ?_ ?_
          · go_simp <;> with_reducible rfl
          rintro e w2 hp
          obtain ⟨v2, hA2, hout, hk⟩ := hAD.out.call hp
          have hq2 : w2.heap[q]? = _ := (hk.block q (Array.getElem?_eq_some_iff.1 hqD.out).1 (ty_ne hqD.out hAD.out.bat.b (by decide)) (ty_ne hqD.out hAD.out.bat.ct (by decide)) (fun e => hAD.out.bat.own_ne hqD.out (by decide) e)).trans hqD.out
          have hHeld : (fun y : World => y.cell? ⟨b, off + i * 3 + 1, none⟩ = some (.int .u16 (xi : Nat)) ∧ y.cell? ⟨b, off + i * 3 + 2, none⟩ = some (.int .i64 L)) w2 := hS2.out _ hA2.lo
          have bq := blk_of hq2
          generalize gbAdd s xi L = R at *
          obtain ⟨s', o⟩ := R
          rcases o with _ | ⟨no, fi, K, m, I⟩
          · have he : e = .returned (.tuple #[.agg #[.int .u32 0, .int .u32 0, .int .i64 0, .int .i64 0, .slice none 0 0], .bool false]) := hout
            subst he
            have hfin := Lib.hid (ACut.none (i := i) #[.int .u32 0, .int .u32 0, .int .i64 0, .int .i64 0, .slice none 0 0] hA2 hpl (by omega) hq2 hqw)
            have hSf := Lib.hid (hS2.out _ (below_setRow hA2.lo hqw #[.int .u32 0, .int .u32 0, .int .i64 0, .int .i64 0, .slice none 0 0]))
            refine ⟨_, rfl, hHeld, ?_⟩
            clear hpl hp hA2 hout hk hq2
            first
              | (refine h_run (i := 12) (v := ?_) hHeld rfl (by kernel_rfl) (by kernel_rfl) (by kernel_rfl) ?_ ?_ ?_
                 rotate_left
                 · rfl
                 · (intro x hSx; (try dsimp only at hSx); go_simp <;> with_reducible rfl)
                 simp only [Act.put, List.setIfInBounds_toArray, List.set_cons_zero, List.set_cons_succ])
              | (refine h_skip (i := 12) hHeld rfl (by kernel_rfl) (by kernel_rfl) (by kernel_rfl) ?_ ?_
                 · rfl
                 simp only [Act.put, List.setIfInBounds_toArray, List.set_cons_zero, List.set_cons_succ])
            first
              | (refine h_run (i := 13) (v := ?_) hHeld rfl (by kernel_rfl) (by kernel_rfl) (by kernel_rfl) ?_ ?_ ?_
                 rotate_left
                 · rfl
                 · (intro x hSx; (try dsimp only at hSx); go_simp <;> with_reducible rfl)
                 simp only [Act.put, List.setIfInBounds_toArray, List.set_cons_zero, List.set_cons_succ])
              | (refine h_skip (i := 13) hHeld rfl (by kernel_rfl) (by kernel_rfl) (by kernel_rfl) ?_ ?_
                 · rfl
                 simp only [Act.put, List.setIfInBounds_toArray, List.set_cons_zero, List.set_cons_succ])
            first
              | (refine h_run (i := 14) (v := ?_) hHeld rfl (by kernel_rfl) (by kernel_rfl) (by kernel_rfl) ?_ ?_ ?_
                 rotate_left
                 · rfl
                 · (intro x hSx; (try dsimp only at hSx); go_simp <;> with_reducible rfl)
                 simp only [Act.put, List.setIfInBounds_toArray, List.set_cons_zero, List.set_cons_succ])
              | (refine h_skip (i := 14) hHeld rfl (by kernel_rfl) (by kernel_rfl) (by kernel_rfl) ?_ ?_
                 · rfl
                 simp only [Act.put, List.setIfInBounds_toArray, List.set_cons_zero, List.set_cons_succ])
            clear hHeld
            refine h_write (i := 15) (w' := w2.setRow q #[.int .u32 0, .int .u32 0, .int .i64 0, .int .i64 0, .slice none 0 0]) (fun y : World => y.cell? ⟨b, off + i * 3 + 1, none⟩ = some (.int .u16 (xi : Nat)) ∧ y.cell? ⟨b, off + i * 3 + 2, none⟩ = some (.int .i64 L)) (fun _ h => h) rfl (by kernel_rfl) rfl ?_ hSf.out ?_
            · go_simp <;> with_reducible rfl
            have hHeld := hSf.out
            first
              | (refine h_run (i := 16) (v := ?_) hHeld rfl (by kernel_rfl) (by kernel_rfl) (by kernel_rfl) ?_ ?_ ?_
                 rotate_left
                 · rfl
                 · (intro x hSx; (try dsimp only at hSx); go_simp <;> with_reducible rfl)
                 simp only [Act.put, List.setIfInBounds_toArray, List.set_cons_zero, List.set_cons_succ])
              | (refine h_skip (i := 16) hHeld rfl (by kernel_rfl) (by kernel_rfl) (by kernel_rfl) ?_ ?_
                 · rfl
                 simp only [Act.put, List.setIfInBounds_toArray, List.set_cons_zero, List.set_cons_succ])
            refine h_done (by kernel_rfl) ?_
            clear hHeld bq
            go_wp2_with fail
            go_meet
            exact hfin.out
          · obtain ⟨sd, cap, rfl, hos⟩ := hout
            have hfin := Lib.hid (ACut.some (i := i) hA2 hpl (by omega) hq2 hqw hos)
            have hSf := Lib.hid (hS2.out _ (below_setRow hA2.lo hqw #[.int .u32 (no : Nat), .int .u32 (fi : Nat), .int .i64 (K : Nat), .int .i64 (m : Nat), .slice sd (K + m) cap]))
            refine ⟨_, rfl, hHeld, ?_⟩
            clear hpl hp hA2 hos hk hq2
            first
              | (refine h_run (i := 12) (v := ?_) hHeld rfl (by kernel_rfl) (by kernel_rfl) (by kernel_rfl) ?_ ?_ ?_
                 rotate_left
                 · rfl
                 · (intro x hSx; (try dsimp only at hSx); go_simp <;> with_reducible rfl)
                 simp only [Act.put, List.setIfInBounds_toArray, List.set_cons_zero, List.set_cons_succ])
              | (refine h_skip (i := 12) hHeld rfl (by kernel_rfl) (by kernel_rfl) (by kernel_rfl) ?_ ?_
                 · rfl
                 simp only [Act.put, List.setIfInBounds_toArray, List.set_cons_zero, List.set_cons_succ])
            first
              | (refine h_run (i := 13) (v := ?_) hHeld rfl (by kernel_rfl) (by kernel_rfl) (by kernel_rfl) ?_ ?_ ?_
                 rotate_left
                 · rfl
                 · (intro x hSx; (try dsimp only at hSx); go_simp <;> with_reducible rfl)
                 simp only [Act.put, List.setIfInBounds_toArray, List.set_cons_zero, List.set_cons_succ])
              | (refine h_skip (i := 13) hHeld rfl (by kernel_rfl) (by kernel_rfl) (by kernel_rfl) ?_ ?_
                 · rfl
                 simp only [Act.put, List.setIfInBounds_toArray, List.set_cons_zero, List.set_cons_succ])
            first
              | (refine h_run (i := 14) (v := ?_) hHeld rfl (by kernel_rfl) (by kernel_rfl) (by kernel_rfl) ?_ ?_ ?_
                 rotate_left
                 · rfl
                 · (intro x hSx; (try dsimp only at hSx); go_simp <;> with_reducible rfl)
                 simp only [Act.put, List.setIfInBounds_toArray, List.set_cons_zero, List.set_cons_succ])
              | (refine h_skip (i := 14) hHeld rfl (by kernel_rfl) (by kernel_rfl) (by kernel_rfl) ?_ ?_
                 · rfl
                 simp only [Act.put, List.setIfInBounds_toArray, List.set_cons_zero, List.set_cons_succ])
            clear hHeld
            refine h_write (i := 15) (w' := w2.setRow q #[.int .u32 (no : Nat), .int .u32 (fi : Nat), .int .i64 (K : Nat), .int .i64 (m : Nat), .slice sd (K + m) cap]) (fun y : World => y.cell? ⟨b, off + i * 3 + 1, none⟩ = some (.int .u16 (xi : Nat)) ∧ y.cell? ⟨b, off + i * 3 + 2, none⟩ = some (.int .i64 L)) (fun _ h => h) rfl (by kernel_rfl) rfl ?_ hSf.out ?_
            · go_simp <;> with_reducible rfl
            have hHeld := hSf.out
            first
              | (refine h_run (i := 16) (v := ?_) hHeld rfl (by kernel_rfl) (by kernel_rfl) (by kernel_rfl) ?_ ?_ ?_
                 rotate_left
                 · rfl
                 · (intro x hSx; (try dsimp only at hSx); go_simp <;> with_reducible rfl)
                 simp only [Act.put, List.setIfInBounds_toArray, List.set_cons_zero, List.set_cons_succ])
              | (refine h_skip (i := 16) hHeld rfl (by kernel_rfl) (by kernel_rfl) (by kernel_rfl) ?_ ?_
                 · rfl
                 simp only [Act.put, List.setIfInBounds_toArray, List.set_cons_zero, List.set_cons_succ])
            refine h_done (by kernel_rfl) ?_
            clear hHeld bq
            go_wp2_with fail
            go_meet
            exact hfin.out
      case rest =>
        obtain ⟨s', v', c', C', hc', hA', hres⟩ := hcut
        rcases hres with ⟨rfl, hI'⟩ | ⟨no, K, m, I, gb, goff, cap, rfl, hout, hcap, hml, hq', hsh⟩
        · have hAh := Lib.hid hA'
          have hIh := Lib.hid hI'
          clear hA' hI' c0 c2
          go_wp2_with fail
          go_roundw
          case rel => exact ⟨i + 1, s', v', c', T, C', by omega, by go_num, by omega, hIh, hAh⟩
          case measure => simp [intOf]; omega
        · obtain ⟨_, hK1, hKs, hTK, hIc, hIb, hI'⟩ := hout
          obtain ⟨s8, c8, h8⟩ := hA'.told.form
          subst h8
          have cq1 : wc.cell? ⟨q, 1, none⟩ = some (.int .u32 (T : Nat)) := (cell_of_block hq').trans rfl
          have cq2 : wc.cell? ⟨q, 2, none⟩ = some (.int .i64 (K : Nat)) := (cell_of_block hq').trans rfl
          have cq4 : wc.cell? ⟨q, 4, none⟩ = some (.slice (some ⟨gb, goff, none⟩) (K + m) cap) := (cell_of_block hq').trans rfl
          have cz0 : wc.cell? ⟨w.heap.size, 0, none⟩ = some (.int .i64 (size : Nat)) := (cell_of_block hA'.box).trans rfl
          have hwT : IntKind.i64.wrap (T : Int) = (T : Int) := IntWalk.i64_in _ (by omega)
          have e0 := beq_self_i2 (T : Int)
          have e1 : decide ((K : Int) < 1) = false := decide_eq_false (by omega)
          have e2 : decide (K + m < K) = false := decide_eq_false (by omega)
          have e3 : decide ((K : Int) + (m : Int) < (K : Int)) = false := decide_eq_false (by omega)
          have e4 : decide ((size : Int) < (K : Int)) = false := decide_eq_false (by omega)
          have e5 : decide (size < K) = false := decide_eq_false (by omega)
          have hKc : K ≤ cap := by omega
          have hAh := Lib.hid hA'
          have hIh := Lib.hid hI'
          have hcc := Lib.hid (told_cat hIc)
          have kin := Lib.hid (s_inputs K K (some ⟨gb, goff, none⟩) cap (grL I) wc hsh (Nat.le_refl _) (by omega) (fun i _ => grL_len I i) (fun h => absurd h (Nat.lt_irrefl _)))
          clear hA' hI' hq' hsh hIc hIb c0 c2
          go_wp2_with fail
          refine kin.out.mono ?_
          rintro e w3 (⟨_, vl, rfl, hol, hb3⟩ | ⟨h, _⟩)
          · have hA3 := Lib.hid (hAh.out.below hb3)
            obtain ⟨sl, cl, rfl, hzl, _, _, hnl⟩ := hol.open
            have hzlh := Lib.hid hzl
            have hnlh := Lib.hid hnl
            have hsz := hA3.out.lo.size
            clear hol hb3 hzl hnl cq1 cq2 cq4 cz0
            go_wp2_with (at_builtin; refine wpList_catZ Try.underlying35 infoIn (by decide) rfl (.tmp 124) (.tmp 125) rfl _ w.heap.size T (fun j => (C' j : Nat)) sl cl K (fun i => (inW (grL I) i : Nat)) rfl rfl hA3.out.told hzlh.out hnlh.out (by omega) hsz ?_; intro v9 w6 ho6 hg6 hf6; have hA6 := Lib.hid (hA3.out.toldS (ho6.congr hcc.out) hg6 hf6); clear ho6 hg6 hf6)
            go_roundw
            case rel => exact ⟨i + 1, s', v', c', T + K, C', by omega, by go_num, by omega, hIh, hA6⟩
            case measure => simp [intOf]; omega
          · exact absurd h (Nat.lt_irrefl _)
    · have hex : (decide ((i : Int) < (len1 : Int)) = false ∧ decide (i < len1) = false) ∨ ((i : Int) < (len1 : Int) ∧ decide ((i : Int) < 60) = false ∧ decide (i < 60) = false) := by
        by_cases h : i < len1
        · exact .inr ⟨by omega, decide_eq_false (by omega), decide_eq_false (by omega)⟩
        · exact .inl ⟨decide_eq_false (by omega), decide_eq_false h⟩
      obtain ⟨s7, c7, h7, hz7, _⟩ := hA.out.came.open
      obtain ⟨s8, c8, h8, hz8, _⟩ := hA.out.told.open
      subst h7 h8
      have hcTn := hI.out.hc
      subst hcTn
      have hz7h := Lib.hid hz7
      have hz8h := Lib.hid hz8
      have kwt := Lib.hid (b_waiting bp tb cp w.heap.size s v wr hA.out.bat)
      have hBr := Lib.hid hA.out.lo
      obtain ⟨n, hn⟩ : ∃ n, s.n = n := ⟨_, rfl⟩
      rw [hn] at kwt hz7h hci ⊢
      clear hz7 hz8 hrun hA hI hn
      have e0 : decide ((n : Int) < 0) = false := decide_eq_false (by omega)
      have e1 := beq_self_i2 ((T : Int) + (n : Int))
      rcases hex with ⟨i1, i2⟩ | ⟨i1, i2, i3⟩
      all_goals (
        go_wp2_with fail
        refine kwt.out.mono ?_
        rintro e w' ⟨rfl, rfl⟩
        go_wp2_with fail
        refine kwt.out.mono ?_
        rintro e w' ⟨rfl, rfl⟩
        go_upto_region 25 with (fail)
        go_loopw [14] (fun v14 wx => ∃ j : Nat, j ≤ T ∧ v14 = .int .i64 (j : Nat) ∧ Hid (Below wr.heap.size wr wx)) (fun v14 _ => T - (intOf v14).toNat)
        case atStart => exact ⟨0, by omega, rfl, hide (Below.refl _ _)⟩
        case round =>
          obtain ⟨j, hj, rfl, hBx⟩ := hrel
          by_cases hjT : j < T
          · have j1 : (j : Int) < (T : Int) := by omega
            obtain ⟨b7, o7, rfl, k7⟩ := hz7h.out j (by omega)
            obtain ⟨b8, o8, rfl, k8⟩ := hz8h.out j hjT
            have k7x := (hBx.out.cell (p := ⟨b7, o7 + j, none⟩) (cell_block_lt k7)).trans k7
            have k8x := (hBx.out.cell (p := ⟨b8, o8 + j, none⟩) (cell_block_lt k8)).trans k8
            have e3 := beq_self_i2 (C j : Int)
            clear k7 k8
            go_upto_region 27 with (fail)
            go_quiet (fail)
            go_wp2_with fail
            go_roundw
            case rel => exact ⟨j + 1, by omega, by go_num, hide (below_drewN hBx.out _)⟩
            case measure => simp [intOf]; omega
          · obtain rfl : j = T := by omega
            have j1 : decide ((j : Int) < (j : Int)) = false := by simp
            have hBf := Lib.hid (hBr.out.trans (hBx.out.mono hBr.out.size))
            go_wp2_with fail
            go_ret
            exact ⟨rfl, hBf.out⟩)
end Go.Proofs.Ytipfoclmdbbjiaa

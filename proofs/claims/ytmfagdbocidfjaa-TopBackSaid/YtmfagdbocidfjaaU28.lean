import Derived.Test.YtmfagdbocidfjaaU27
import Derived.Test.YtmfagdbocidfjaaU23
/- A new engine is made. Conditions: none but its numbers. -/
namespace Go.Proofs.Ytmfagdbocidfjaa
open Go.RowKit
def NewEEnd (w : World) (seed : Int) (loc del ah x : Nat) (e : Ending) (w' : World) : Prop :=
  e = .returned (.int .i64 0) ∧ ∃ c F0 F1 FS hh, c.loc = loc ∧ c.del = del ∧ c.ah = ah ∧ c.x = x ∧ EnAt w' w.heap.size c F0 F1 FS (newE del (newF seed) hh) ∧ Below w.heap.size w w'
attribute [local irreducible] stA enP newF nBuild blk wLoad wLoadRes loadAns wStore wStoreRes storeAns Plain
attribute [local go_sem ↓] nBuild_of ld_st0 sto_st0
attribute [local go_sem] nBuild_2
set_option maxRecDepth 100000 in
set_option maxHeartbeats 4000000 in
theorem e_new (seed : Int) (loc del ah : Nat) (w : World) (hs : 0 ≤ seed ∧ seed < 4294967296) (hl : loc < 2) (hd : del ≤ 8) (ha : 1 ≤ ah ∧ ah ≤ 16) :
    Calls Try.prog 6 #[.agg #[.int .u32 seed, .int .i64 (loc : Nat), .int .i64 (del : Nat), .int .i64 (ah : Nat)]] w (NewEPost w seed loc del ah) := by
  have hg0 : Hid ((w.alloc (.cells #[.int .u32 seed, .int .i64 (loc : Nat), .int .i64 (del : Nat), .int .i64 (ah : Nat)] 24)).heap[w.heap.size]? = some (.cells #[.int .u32 seed, .int .i64 (loc : Nat), .int .i64 (del : Nat), .int .i64 (ah : Nat)] 24 (0, 0))) := hide (last0 _ _ _ rfl)
  have hB0 : Hid (Below w.heap.size w (w.alloc (.cells #[.int .u32 seed, .int .i64 (loc : Nat), .int .i64 (del : Nat), .int .i64 (ah : Nat)] 24))) := hide ((Below.refl _ _).alloc (Nat.le_refl _) _)
  have d1 : decide ((loc : Int) < 0) = false := decide_eq_false (by omega)
  have d2 : decide ((1 : Int) < (loc : Int)) = false := decide_eq_false (by omega)
  have d22 : decide (1 < loc) = false := decide_eq_false (by omega)
  have d3 : decide ((ah : Int) < 1) = false := decide_eq_false (by omega)
  have d33 : decide (ah < 1) = false := decide_eq_false (by omega)
  have d4 : decide ((16 : Int) < (ah : Int)) = false := decide_eq_false (by omega)
  have d44 : decide (16 < ah) = false := decide_eq_false (by omega)
  have hsh := Lib.hid hs
  have hdh := Lib.hid hd
  clear hs hl hd ha
  go_enter Try.func6, Try.ntmps6
  go_upto_region 1 with (fail)
  generalize World.alloc w _ = w0 at *
  obtain ⟨g, hg⟩ : ∃ g, w.heap.size = g := ⟨_, rfl⟩
  have hgh := Lib.hid hg
  rw [hg] at hg0 ⊢
  clear hg
  have c0 : w0.cell? ⟨g, 0, none⟩ = some (.int .u32 seed) := (cell_of_block hg0.out).trans rfl
  have c1 : w0.cell? ⟨g, 1, none⟩ = some (.int .i64 (loc : Nat)) := (cell_of_block hg0.out).trans rfl
  have c2 : w0.cell? ⟨g, 2, none⟩ = some (.int .i64 (del : Nat)) := (cell_of_block hg0.out).trans rfl
  have c3 : w0.cell? ⟨g, 3, none⟩ = some (.int .i64 (ah : Nat)) := (cell_of_block hg0.out).trans rfl
  go_upto_region 3 with (fail)
  have hHeld : (fun y : World => y.cell? ⟨g, 0, none⟩ = some (.int .u32 seed) ∧ y.cell? ⟨g, 1, none⟩ = some (.int .i64 (loc : Nat)) ∧ y.cell? ⟨g, 2, none⟩ = some (.int .i64 (del : Nat)) ∧ y.cell? ⟨g, 3, none⟩ = some (.int .i64 (ah : Nat))) w0.drew := ⟨c0, c1, c2, c3⟩
  refine h_begin 7 (fun y : World => y.cell? ⟨g, 0, none⟩ = some (.int .u32 seed) ∧ y.cell? ⟨g, 1, none⟩ = some (.int .i64 (loc : Nat)) ∧ y.cell? ⟨g, 2, none⟩ = some (.int .i64 (del : Nat)) ∧ y.cell? ⟨g, 3, none⟩ = some (.int .i64 (ah : Nat))) rfl (by kernel_rfl) hHeld ?_
  have hg1 : Hid (w0.drew.heap[g]? = some (.cells #[.int .u32 seed, .int .i64 (loc : Nat), .int .i64 (del : Nat), .int .i64 (ah : Nat)] 24 (0, 0))) := hide hg0.out
  have hB1 : Hid (Below w.heap.size w w0.drew) := hide (below_drewN hB0.out 1)
  clear c0 c1 c2 c3 hg0 hB0 d1 d2 d22 d3 d33 d4 d44
  generalize w0.drew = w1 at *
  first
    | (refine h_run (i := 0) (v := ?_) hHeld rfl (by kernel_rfl) (by kernel_rfl) (by kernel_rfl) ?_ ?_ ?_
       rotate_left
       · rfl
       · (intro x hSx; (try dsimp only at hSx); go_simp <;> with_reducible rfl)
       simp only [Act.put, List.setIfInBounds_toArray, List.set_cons_zero, List.set_cons_succ])
    | (refine h_skip (i := 0) hHeld rfl (by kernel_rfl) (by kernel_rfl) (by kernel_rfl) ?_ ?_
       · rfl
       simp only [Act.put, List.setIfInBounds_toArray, List.set_cons_zero, List.set_cons_succ])
  first
    | (refine h_run (i := 1) (v := ?_) hHeld rfl (by kernel_rfl) (by kernel_rfl) (by kernel_rfl) ?_ ?_ ?_
       rotate_left
       · rfl
       · (intro x hSx; (try dsimp only at hSx); go_simp <;> with_reducible rfl)
       simp only [Act.put, List.setIfInBounds_toArray, List.set_cons_zero, List.set_cons_succ])
    | (refine h_skip (i := 1) hHeld rfl (by kernel_rfl) (by kernel_rfl) (by kernel_rfl) ?_ ?_
       · rfl
       simp only [Act.put, List.setIfInBounds_toArray, List.set_cons_zero, List.set_cons_succ])
  first
    | (refine h_run (i := 2) (v := ?_) hHeld rfl (by kernel_rfl) (by kernel_rfl) (by kernel_rfl) ?_ ?_ ?_
       rotate_left
       · rfl
       · (intro x hSx; (try dsimp only at hSx); go_simp <;> with_reducible rfl)
       simp only [Act.put, List.setIfInBounds_toArray, List.set_cons_zero, List.set_cons_succ])
    | (refine h_skip (i := 2) hHeld rfl (by kernel_rfl) (by kernel_rfl) (by kernel_rfl) ?_ ?_
       · rfl
       simp only [Act.put, List.setIfInBounds_toArray, List.set_cons_zero, List.set_cons_succ])
  refine h_call (i := 3) (fun y : World => y.cell? ⟨g, 0, none⟩ = some (.int .u32 seed) ∧ y.cell? ⟨g, 1, none⟩ = some (.int .i64 (loc : Nat)) ∧ y.cell? ⟨g, 2, none⟩ = some (.int .i64 (del : Nat)) ∧ y.cell? ⟨g, 3, none⟩ = some (.int .i64 (ah : Nat))) (fun _ h => h) (g_new seed w1) rfl (by kernel_rfl) rfl ?_ ?_
  · go_simp <;> with_reducible rfl
  rintro _ w2 ⟨rfl, hB2⟩
  have hg2 : Hid (w2.heap[g]? = some (.cells #[.int .u32 seed, .int .i64 (loc : Nat), .int .i64 (del : Nat), .int .i64 (ah : Nat)] 24 (0, 0))) := hide ((hB2.block g (Array.getElem?_eq_some_iff.1 hg1.out).1).trans hg1.out)
  have hB3 : Hid (Below w.heap.size w w2) := hide (hB1.out.trans (hB2.mono hB1.out.size))
  have hHeld : (fun y : World => y.cell? ⟨g, 0, none⟩ = some (.int .u32 seed) ∧ y.cell? ⟨g, 1, none⟩ = some (.int .i64 (loc : Nat)) ∧ y.cell? ⟨g, 2, none⟩ = some (.int .i64 (del : Nat)) ∧ y.cell? ⟨g, 3, none⟩ = some (.int .i64 (ah : Nat))) w2 := ⟨(cell_of_block hg2.out).trans rfl, (cell_of_block hg2.out).trans rfl, (cell_of_block hg2.out).trans rfl, (cell_of_block hg2.out).trans rfl⟩
  refine ⟨_, rfl, hHeld, ?_⟩
  try simp only [Act.put, List.setIfInBounds_toArray, List.set_cons_zero, List.set_cons_succ]
  first
    | (refine h_run (i := 4) (v := ?_) hHeld rfl (by kernel_rfl) (by kernel_rfl) (by kernel_rfl) ?_ ?_ ?_
       rotate_left
       · rfl
       · (intro x hSx; (try dsimp only at hSx); go_simp <;> with_reducible rfl)
       simp only [Act.put, List.setIfInBounds_toArray, List.set_cons_zero, List.set_cons_succ])
    | (refine h_skip (i := 4) hHeld rfl (by kernel_rfl) (by kernel_rfl) (by kernel_rfl) ?_ ?_
       · rfl
       simp only [Act.put, List.setIfInBounds_toArray, List.set_cons_zero, List.set_cons_succ])
  have hx3 : Hid ((w2.alloc (.cells (enP seed (loc : Nat) (del : Nat) (ah : Nat) (.pointer none) (.pointer none) (.pointer none) (newF seed)) 86)).heap[w2.heap.size]? = some (.cells (enP seed (loc : Nat) (del : Nat) (ah : Nat) (.pointer none) (.pointer none) (.pointer none) (newF seed)) 86 (0, 0))) := hide (last0 _ _ _ rfl)
  have hBa : Below w2.heap.size w2 (w2.alloc (.cells (enP seed (loc : Nat) (del : Nat) (ah : Nat) (.pointer none) (.pointer none) (.pointer none) (newF seed)) 86)) := (Below.refl _ _).alloc (Nat.le_refl _) _
  have hg3 : Hid ((w2.alloc (.cells (enP seed (loc : Nat) (del : Nat) (ah : Nat) (.pointer none) (.pointer none) (.pointer none) (newF seed)) 86)).heap[g]? = some (.cells #[.int .u32 seed, .int .i64 (loc : Nat), .int .i64 (del : Nat), .int .i64 (ah : Nat)] 24 (0, 0))) := hide ((hBa.block g (Array.getElem?_eq_some_iff.1 hg2.out).1).trans hg2.out)
  have hB4 : Hid (Below w.heap.size w (w2.alloc (.cells (enP seed (loc : Nat) (del : Nat) (ah : Nat) (.pointer none) (.pointer none) (.pointer none) (newF seed)) 86))) := hide (hB3.out.trans (hBa.mono hB3.out.size))
  have hgx : Hid (w.heap.size ≤ w2.heap.size) := hide hB3.out.size
  have hHeld : (fun y : World => y.cell? ⟨g, 0, none⟩ = some (.int .u32 seed) ∧ y.cell? ⟨g, 1, none⟩ = some (.int .i64 (loc : Nat)) ∧ y.cell? ⟨g, 2, none⟩ = some (.int .i64 (del : Nat)) ∧ y.cell? ⟨g, 3, none⟩ = some (.int .i64 (ah : Nat))) (w2.alloc (.cells (enP seed (loc : Nat) (del : Nat) (ah : Nat) (.pointer none) (.pointer none) (.pointer none) (newF seed)) 86)) := ⟨(cell_of_block hg3.out).trans rfl, (cell_of_block hg3.out).trans rfl, (cell_of_block hg3.out).trans rfl, (cell_of_block hg3.out).trans rfl⟩
  refine h_value (i := 5) (v := .pointer (some ⟨w2.heap.size, 0, none⟩)) (w' := w2.alloc (.cells (enP seed (loc : Nat) (del : Nat) (ah : Nat) (.pointer none) (.pointer none) (.pointer none) (newF seed)) 86)) (fun y : World => y.cell? ⟨g, 0, none⟩ = some (.int .u32 seed) ∧ y.cell? ⟨g, 1, none⟩ = some (.int .i64 (loc : Nat)) ∧ y.cell? ⟨g, 2, none⟩ = some (.int .i64 (del : Nat)) ∧ y.cell? ⟨g, 3, none⟩ = some (.int .i64 (ah : Nat))) (fun _ h => h) rfl (by kernel_rfl) rfl ?_ hHeld ?_
  · go_simp
  try simp only [Act.put, List.setIfInBounds_toArray, List.set_cons_zero, List.set_cons_succ]
  first
    | (refine h_run (i := 6) (v := ?_) hHeld rfl (by kernel_rfl) (by kernel_rfl) (by kernel_rfl) ?_ ?_ ?_
       rotate_left
       · rfl
       · (intro x hSx; (try dsimp only at hSx); go_simp <;> with_reducible rfl)
       simp only [Act.put, List.setIfInBounds_toArray, List.set_cons_zero, List.set_cons_succ])
    | (refine h_skip (i := 6) hHeld rfl (by kernel_rfl) (by kernel_rfl) (by kernel_rfl) ?_ ?_
       · rfl
       simp only [Act.put, List.setIfInBounds_toArray, List.set_cons_zero, List.set_cons_succ])
  refine h_done (by kernel_rfl) ?_
  try simp only [Act.put, List.setIfInBounds_toArray, List.set_cons_zero, List.set_cons_succ]
  clear hHeld hBa hg1 hB1 hg2 hB3 hB2
  obtain ⟨x, hx⟩ : ∃ x, w2.heap.size = x := ⟨_, rfl⟩
  generalize World.alloc w2 _ = w3 at *
  rw [hx] at hx3 hgx ⊢
  clear hx
  go_upto_region 5 with (fail)
  go_loopw [32] (fun v32 wr => (v32 = .int .i64 0 ∧ Hid (wr.heap[x]? = some (.cells (enP seed (loc : Nat) (del : Nat) (ah : Nat) (.pointer none) (.pointer none) (.pointer none) (newF seed)) 86 (0, 0))) ∧ Hid (wr.heap[g]? = some (.cells #[.int .u32 seed, .int .i64 (loc : Nat), .int .i64 (del : Nat), .int .i64 (ah : Nat)] 24 (0, 0))) ∧ Hid (Below w.heap.size w wr)) ∨ (v32 = .int .i64 1 ∧ ∃ p0 G0, Hid (wr.heap[x]? = some (.cells (enP seed (loc : Nat) (del : Nat) (ah : Nat) (.pointer (some ⟨p0, 0, none⟩)) (.pointer none) (.pointer none) (newF seed)) 86 (0, 0))) ∧ Hid (QuIs wr w.heap.size p0 G0 (newP del).I (newP del).A (newP del).kf (newP del).uf (newP del).wr) ∧ Hid (wr.heap[g]? = some (.cells #[.int .u32 seed, .int .i64 (loc : Nat), .int .i64 (del : Nat), .int .i64 (ah : Nat)] 24 (0, 0))) ∧ Hid (Below w.heap.size w wr)) ∨ (v32 = .int .i64 2 ∧ ∃ p0 G0 p1 G1, Hid (wr.heap[x]? = some (.cells (enP seed (loc : Nat) (del : Nat) (ah : Nat) (.pointer (some ⟨p0, 0, none⟩)) (.pointer (some ⟨p1, 0, none⟩)) (.pointer none) (newF seed)) 86 (0, 0))) ∧ Hid (QuIs wr w.heap.size p0 G0 (newP del).I (newP del).A (newP del).kf (newP del).uf (newP del).wr) ∧ Hid (QuIs wr w.heap.size p1 G1 (newP del).I (newP del).A (newP del).kf (newP del).uf (newP del).wr) ∧ Hid (∀ b, G0 b → ¬ G1 b) ∧ Hid (wr.heap[g]? = some (.cells #[.int .u32 seed, .int .i64 (loc : Nat), .int .i64 (del : Nat), .int .i64 (ah : Nat)] 24 (0, 0))) ∧ Hid (Below w.heap.size w wr))) (fun v32 _ => 2 - (intOf v32).toNat)
  case atStart => exact .inl ⟨rfl, hx3, hg3, hB4⟩
  case round =>
    clear hx3 hg3 hB4
    rcases hrel with ⟨rfl, hxb, hgb, hB⟩ | ⟨rfl, p0, G0, hxb, hq0, hgb, hB⟩ | ⟨rfl, p0, G0, p1, G1, hxb, hq0, hq1, hdj, hgb, hB⟩
    · have c2 : wr.cell? ⟨g, 2, none⟩ = some (.int .i64 (del : Nat)) := (cell_of_block hgb.out).trans rfl
      have kq := Lib.hid (qu_new del wr hdh.out)
      go_wp2_with fail
      refine kq.out.mono ?_
      rintro e w4 hP
      obtain ⟨p0, G0, rfl, hq, hB4⟩ := newQ_is hP
      have hx4 : w4.heap[x]? = some (.cells (enP seed (loc : Nat) (del : Nat) (ah : Nat) (.pointer none) (.pointer none) (.pointer none) (newF seed)) 86 (0, 0)) := (hB4.block x (Array.getElem?_eq_some_iff.1 hxb.out).1).trans hxb.out
      have hg4 : w4.heap[g]? = some (.cells #[.int .u32 seed, .int .i64 (loc : Nat), .int .i64 (del : Nat), .int .i64 (ah : Nat)] 24 (0, 0)) := (hB4.block g (Array.getElem?_eq_some_iff.1 hgb.out).1).trans hgb.out
      have cx : w4.cell? ⟨x, 4, none⟩ = some (.pointer none) := (cell_of_block hx4).trans ((enP_lo _ _ _ _ _ _ _ _ (by omega)).trans rfl)
      have fx := frozen_of_row _ x 4 _ _ hx4
      have hx9 : Hid ((w4.setCell ⟨x, 4, none⟩ (.pointer (some ⟨p0, 0, none⟩))).heap[x]? = some (.cells (enP seed (loc : Nat) (del : Nat) (ah : Nat) (.pointer (some ⟨p0, 0, none⟩)) (.pointer none) (.pointer none) (newF seed)) 86 (0, 0))) := hide (by rw [blk_set hx4 4 _, enP_set seed _ _ _ _ _ _ (.pointer (some ⟨p0, 0, none⟩)) _ _ (newF seed) (by omega) rfl])
      have hq9 : Hid (QuIs (w4.setCell ⟨x, 4, none⟩ (.pointer (some ⟨p0, 0, none⟩))) w.heap.size p0 G0 (newP del).I (newP del).A (newP del).kf (newP del).uf (newP del).wr) := hide ((hq.base hB.out.size).keep (fun b hb => heap_setCell_other w4 ⟨x, 4, none⟩ b _ (fun e => hq.not hx4 (by decide) (by decide) (by decide) ((show b = x from e) ▸ hb))))
      have hg9 : Hid ((w4.setCell ⟨x, 4, none⟩ (.pointer (some ⟨p0, 0, none⟩))).heap[g]? = some (.cells #[.int .u32 seed, .int .i64 (loc : Nat), .int .i64 (del : Nat), .int .i64 (ah : Nat)] 24 (0, 0))) := hide ((heap_setCell_other w4 ⟨x, 4, none⟩ g _ (bty_ne hg4 hx4 (by decide))).trans hg4)
      have hB9 : Hid (Below w.heap.size w (w4.setCell ⟨x, 4, none⟩ (.pointer (some ⟨p0, 0, none⟩)))) := hide (Touch.one (hB.out.trans (hB4.mono hB.out.size)) (touch_set w4 x 4 _) hgx.out (Nat.le_trans hB.out.size hB4.size))
      clear hP hq hB4 hx4 hg4 hxb hgb hB c2 kq
      go_wp2_with fail
      refine ⟨?_, ?_⟩
      rotate_left
      · simp [intOf]
      first
        | exact .inr (.inl ⟨rfl, p0, G0, hx9, hq9, hg9, hB9⟩)
        | (repeat (apply Exists.intro)
           exact ⟨.inr (.inl ⟨rfl, p0, G0, hx9, hq9, hg9, hB9⟩), rfl⟩)
    · have c2 : wr.cell? ⟨g, 2, none⟩ = some (.int .i64 (del : Nat)) := (cell_of_block hgb.out).trans rfl
      have kq := Lib.hid (qu_new del wr hdh.out)
      go_wp2_with fail
      refine kq.out.mono ?_
      rintro e w4 hP
      obtain ⟨p1, G1, rfl, hq, hB4⟩ := newQ_is hP
      have hx4 : w4.heap[x]? = some (.cells (enP seed (loc : Nat) (del : Nat) (ah : Nat) (.pointer (some ⟨p0, 0, none⟩)) (.pointer none) (.pointer none) (newF seed)) 86 (0, 0)) := (hB4.block x (Array.getElem?_eq_some_iff.1 hxb.out).1).trans hxb.out
      have hg4 : w4.heap[g]? = some (.cells #[.int .u32 seed, .int .i64 (loc : Nat), .int .i64 (del : Nat), .int .i64 (ah : Nat)] 24 (0, 0)) := (hB4.block g (Array.getElem?_eq_some_iff.1 hgb.out).1).trans hgb.out
      have cx : w4.cell? ⟨x, 5, none⟩ = some (.pointer none) := (cell_of_block hx4).trans ((enP_lo _ _ _ _ _ _ _ _ (by omega)).trans rfl)
      have fx := frozen_of_row _ x 5 _ _ hx4
      have hx9 : Hid ((w4.setCell ⟨x, 5, none⟩ (.pointer (some ⟨p1, 0, none⟩))).heap[x]? = some (.cells (enP seed (loc : Nat) (del : Nat) (ah : Nat) (.pointer (some ⟨p0, 0, none⟩)) (.pointer (some ⟨p1, 0, none⟩)) (.pointer none) (newF seed)) 86 (0, 0))) := hide (by rw [blk_set hx4 5 _, enP_set seed _ _ _ _ _ _ _ (.pointer (some ⟨p1, 0, none⟩)) _ (newF seed) (by omega) rfl])
      have hq9 : Hid (QuIs (w4.setCell ⟨x, 5, none⟩ (.pointer (some ⟨p1, 0, none⟩))) w.heap.size p1 G1 (newP del).I (newP del).A (newP del).kf (newP del).uf (newP del).wr) := hide ((hq.base hB.out.size).keep (fun b hb => heap_setCell_other w4 ⟨x, 5, none⟩ b _ (fun e => hq.not hx4 (by decide) (by decide) (by decide) ((show b = x from e) ▸ hb))))
      have hq4 := hq0.out.below hB4
      have hq09 : Hid (QuIs (w4.setCell ⟨x, 5, none⟩ (.pointer (some ⟨p1, 0, none⟩))) w.heap.size p0 G0 (newP del).I (newP del).A (newP del).kf (newP del).uf (newP del).wr) := hide (hq4.keep (fun b hb => heap_setCell_other w4 ⟨x, 5, none⟩ b _ (fun e => hq4.not hx4 (by decide) (by decide) (by decide) ((show b = x from e) ▸ hb))))
      have hdj : Hid (∀ b, G0 b → ¬ G1 b) := hide (fun b h0 h1 => by have := hq0.out.lt b h0; have := hq.ge b h1; omega)
      have hg9 : Hid ((w4.setCell ⟨x, 5, none⟩ (.pointer (some ⟨p1, 0, none⟩))).heap[g]? = some (.cells #[.int .u32 seed, .int .i64 (loc : Nat), .int .i64 (del : Nat), .int .i64 (ah : Nat)] 24 (0, 0))) := hide ((heap_setCell_other w4 ⟨x, 5, none⟩ g _ (bty_ne hg4 hx4 (by decide))).trans hg4)
      have hB9 : Hid (Below w.heap.size w (w4.setCell ⟨x, 5, none⟩ (.pointer (some ⟨p1, 0, none⟩)))) := hide (Touch.one (hB.out.trans (hB4.mono hB.out.size)) (touch_set w4 x 5 _) hgx.out (Nat.le_trans hB.out.size hB4.size))
      clear hP hq hB4 hx4 hg4 hxb hgb hB c2 kq hq0 hq4
      go_wp2_with fail
      refine ⟨?_, ?_⟩
      rotate_left
      · simp [intOf]
      first
        | exact .inr (.inr ⟨rfl, p0, G0, p1, G1, hx9, hq09, hq9, hdj, hg9, hB9⟩)
        | (repeat (apply Exists.intro)
           exact ⟨.inr (.inr ⟨rfl, p0, G0, p1, G1, hx9, hq09, hq9, hdj, hg9, hB9⟩), rfl⟩)
    · have kq := Lib.hid (sv_new wr)
      go_wp2_with fail
      refine kq.out.mono ?_
      rintro e w4 hP
      obtain ⟨ps, GS, rfl, hsv, hB4⟩ := newSv_is hP
      have hx4 : w4.heap[x]? = some (.cells (enP seed (loc : Nat) (del : Nat) (ah : Nat) (.pointer (some ⟨p0, 0, none⟩)) (.pointer (some ⟨p1, 0, none⟩)) (.pointer none) (newF seed)) 86 (0, 0)) := (hB4.block x (Array.getElem?_eq_some_iff.1 hxb.out).1).trans hxb.out
      have cx : w4.cell? ⟨x, 6, none⟩ = some (.pointer none) := (cell_of_block hx4).trans ((enP_lo _ _ _ _ _ _ _ _ (by omega)).trans rfl)
      have fx := frozen_of_row _ x 6 _ _ hx4
      have hx9 : (w4.setCell ⟨x, 6, none⟩ (.pointer (some ⟨ps, 0, none⟩))).heap[x]? = some (.cells (enP seed (loc : Nat) (del : Nat) (ah : Nat) (.pointer (some ⟨p0, 0, none⟩)) (.pointer (some ⟨p1, 0, none⟩)) (.pointer (some ⟨ps, 0, none⟩)) (newF seed)) 86 (0, 0)) := by rw [blk_set hx4 6 _, enP_set seed _ _ _ _ _ _ _ _ (.pointer (some ⟨ps, 0, none⟩)) (newF seed) (by omega) rfl]
      have hq40 := hq0.out.below hB4
      have hq41 := hq1.out.below hB4
      have hA : Hid (EnAt (w4.setCell ⟨x, 6, none⟩ (.pointer (some ⟨ps, 0, none⟩))) w.heap.size ⟨seed, loc, del, ah, x, p0, p1, ps⟩ G0 G1 GS { Q0 := newP del, Q1 := newP del, sf := 0, L := [], S := newF seed, wo := 0 }) := hide
        ⟨⟨0, 0, by rw [enP_enA]; exact hx9⟩, hq40.keep (fun b hb => heap_setCell_other w4 ⟨x, 6, none⟩ b _ (fun e => hq40.not hx4 (by decide) (by decide) (by decide) ((show b = x from e) ▸ hb))), hq41.keep (fun b hb => heap_setCell_other w4 ⟨x, 6, none⟩ b _ (fun e => hq41.not hx4 (by decide) (by decide) (by decide) ((show b = x from e) ▸ hb))), (hsv.base hB.out.size).keep (fun b hb => heap_setCell_other w4 ⟨x, 6, none⟩ b _ (fun e => hsv.not hx4 (by decide) (by decide) (by decide) ((show b = x from e) ▸ hb))), hdj.out, hgx.out⟩
      have hB9 : Hid (Below w.heap.size w (w4.setCell ⟨x, 6, none⟩ (.pointer (some ⟨ps, 0, none⟩)))) := hide (Touch.one (hB.out.trans (hB4.mono hB.out.size)) (touch_set w4 x 6 _) hgx.out (Nat.le_trans hB.out.size hB4.size))
      clear hP hsv hB4 hx4 hxb hgb hB kq hq0 hq1 hq40 hq41 hx9
      go_upto_region 13 with (fail)
      clear cx fx
      generalize World.setCell w4 _ _ = w5 at *
      have c6 : w5.cell? ⟨x, 6, none⟩ = some (.pointer (some ⟨ps, 0, none⟩)) := hA.out.b.ps
      have hld : (wLoad 49 (.pointer (some ⟨x, 7, none⟩))).run Try.prog w5.drew = .ok (.agg (stA (newF seed))) w5.drew := by rw [← ld_st0]; exact (hA.out.b.drewN 1).load
      have ksv : Hid (Calls Try.prog 30 #[(.pointer (some ⟨ps, 0, none⟩)), .agg (stA (newF seed))] w5.drew (NewEEnd w seed loc del ah x)) := hide (by
        obtain ⟨G, hG, hto⟩ := (hA.out.to.drewN 1).sv
        refine (s_save0 hG (newF seed) (hA.out.drewN 1).lo (newF_frame seed)).mono ?_
        rintro e w' ⟨he, hh, hQ⟩
        obtain ⟨F0, F1, FS, hA2, hT, hs⟩ := hto _ _ _ hQ
        exact ⟨he, ⟨seed, loc, del, ah, x, p0, p1, ps⟩, F0, F1, FS, hh, rfl, rfl, rfl, rfl, hA2, hB9.out.trans (hT.toBelow hB9.out.size (fun b hb => hA.out.ge b hb))⟩)
      clear hA hB9
      go_still_tail 8, (by kernel_rfl)
      go_wp2_with fail
      refine ksv.out.mono ?_
      rintro e w6 ⟨rfl, c, F0, F1, FS, hh, h1, h2, h3, hcx, hA, hB⟩
      have hend : Hid (NewEPost w seed loc del ah (.returned (.tuple #[.pointer (some ⟨x, 0, none⟩), .int .i64 0])) w6) := hide ⟨c, F0, F1, FS, hh, h1, h2, h3, by rw [hcx], hA, hB⟩
      clear h1 h2 h3 hcx hA hB
      go_wp2_with fail
      go_ret2
      exact hend.out
end Go.Proofs.Ytmfagdbocidfjaa

/- No engine; what the law hangs on is there. -/
namespace Go.Proofs.Ytmfagdbocidfjaa
open Go.RowKit
def NoPost (w : World) (e : Ending) (w' : World) : Prop := e = .returned (.tuple #[.pointer none, .int .i64 1]) ∧ Below w.heap.size w w'
set_option maxRecDepth 100000 in
set_option maxHeartbeats 2000000 in
theorem qu_new_no (d : Int) (w : World) (hd : d < 0 ∨ 8 < d) : Calls Try.prog 28 #[.int .i64 d] w (fun e w' => e = .returned (.tuple #[.pointer none, .int .i64 1]) ∧ w = w') := by
  by_cases h : d < 0
  · have d0 : decide (d < 0) = true := decide_eq_true h
    go_enter Try.func28, Try.ntmps28
    go_wp2_with fail
    go_ret2
    exact ⟨rfl, rfl⟩
  · have d0 : decide (d < 0) = false := decide_eq_false h
    have d1 : decide (8 < d) = true := decide_eq_true (by omega)
    go_enter Try.func28, Try.ntmps28
    go_wp2_with fail
    go_ret2
    exact ⟨rfl, rfl⟩
attribute [local irreducible] stA enP newF nBuild blk wLoad wLoadRes loadAns wStore wStoreRes storeAns Plain
attribute [local go_sem ↓] nBuild_of ld_st0 sto_st0
attribute [local go_sem] nBuild_2
set_option maxRecDepth 100000 in
set_option maxHeartbeats 4000000 in
theorem e_new_no (seed loc del ah : Int) (w : World) (hb : loc < 0 ∨ 1 < loc ∨ ah < 1 ∨ 16 < ah) :
    Calls Try.prog 6 #[.agg #[.int .u32 seed, .int .i64 loc, .int .i64 del, .int .i64 ah]] w (NoPost w) := by
  have hB0 : Hid (Below w.heap.size w (w.alloc (.cells #[.int .u32 seed, .int .i64 loc, .int .i64 del, .int .i64 ah] 24))) := hide ((Below.refl _ _).alloc (Nat.le_refl _) _)
  by_cases h1 : loc < 0
  · have d1 : decide (loc < 0) = true := decide_eq_true h1
    clear hb
    go_enter Try.func6, Try.ntmps6
    go_wp2_with fail
    go_ret2
    exact ⟨rfl, hB0.out⟩
  have d1 : decide (loc < 0) = false := decide_eq_false h1
  by_cases h2 : 1 < loc
  · have d2 : decide (1 < loc) = true := decide_eq_true h2
    clear hb
    go_enter Try.func6, Try.ntmps6
    go_wp2_with fail
    go_ret2
    exact ⟨rfl, hB0.out⟩
  have d2 : decide (1 < loc) = false := decide_eq_false h2
  by_cases h3 : ah < 1
  · have d3 : decide (ah < 1) = true := decide_eq_true h3
    clear hb
    go_enter Try.func6, Try.ntmps6
    go_wp2_with fail
    go_ret2
    exact ⟨rfl, hB0.out⟩
  have d3 : decide (ah < 1) = false := decide_eq_false h3
  have d4 : decide (16 < ah) = true := decide_eq_true (by omega)
  clear hb
  go_enter Try.func6, Try.ntmps6
  go_wp2_with fail
  go_ret2
  exact ⟨rfl, hB0.out⟩
end Go.Proofs.Ytmfagdbocidfjaa

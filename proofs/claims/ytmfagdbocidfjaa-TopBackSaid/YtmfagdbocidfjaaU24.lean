import Derived.Test.YtmfagdbocidfjaaU23
import Derived.StillTailTactics
/- An engine: a frame more is played. Conditions: what it holds. -/
namespace Go.Proofs.Ytmfagdbocidfjaa
open Go.RowKit
set_option maxRecDepth 100000 in
theorem EnTo.back {W W0 W1 : World} {lo : Nat} {c : EnC} {F : Nat → Prop} {E : EnS} (hB : Below W.heap.size W W0) (h : EnTo W0 lo c F E W1) : EnTo W lo c F E W1 := by
  obtain ⟨F0, F1, FS, hA, hT, hs⟩ := h
  exact ⟨F0, F1, FS, hA, (Touch.below hB F).trans (hT.mono (fun b _ hb => .inl hb)), fun b hb => (hs b hb).imp id (fun e => Nat.le_trans hB.size e)⟩
set_option maxRecDepth 100000 in
theorem EnAt.q0_use {w W : World} {lo : Nat} {c : EnC} {F : Nat → Prop} {E : EnS} {f : Nat} (h : EnTo W lo c F E w) (ok : PlOk E.Q0 f) {g : Nat} {C : Array Value} (hg : w.heap[g]? = some (.cells C 52 (0, 0))) :
    Calls Try.prog 73 #[.pointer (some ⟨c.p0, 0, none⟩), .int .i64 (f : Nat)] w (fun e w' => ∃ k : Bool, e = .returned (.tuple #[.int .u16 (inAt E.Q0.I f), .bool k, .int .i64 0]) ∧ EnTo W lo c F { E with Q0 := E.Q0.use f } w' ∧ w'.heap[g]? = some (.cells C 52 (0, 0))) := by
  obtain ⟨G, hG, hto⟩ := h.q0
  obtain ⟨F0, F1, FS, hA, _, _⟩ := h
  refine (q_use hG f hA.lo ok.i ok.a ok.k ok.u ok.f).mono ?_
  rintro e w' ⟨k, he, hQ⟩
  have hgG := hG.not hg (by decide) (by decide) (by decide)
  exact ⟨k, he, hto _ _ _ _ _ _ hQ, by obtain ⟨_, _, hT, _⟩ := hQ; exact (hT.block g (Array.getElem?_eq_some_iff.1 hg).1 hgG).trans hg⟩
set_option maxRecDepth 100000 in
theorem EnAt.q1_use {w W : World} {lo : Nat} {c : EnC} {F : Nat → Prop} {E : EnS} {f : Nat} (h : EnTo W lo c F E w) (ok : PlOk E.Q1 f) {g : Nat} {C : Array Value} (hg : w.heap[g]? = some (.cells C 52 (0, 0))) :
    Calls Try.prog 73 #[.pointer (some ⟨c.p1, 0, none⟩), .int .i64 (f : Nat)] w (fun e w' => ∃ k : Bool, e = .returned (.tuple #[.int .u16 (inAt E.Q1.I f), .bool k, .int .i64 0]) ∧ EnTo W lo c F { E with Q1 := E.Q1.use f } w' ∧ w'.heap[g]? = some (.cells C 52 (0, 0))) := by
  obtain ⟨G, hG, hto⟩ := h.q1
  obtain ⟨F0, F1, FS, hA, _, _⟩ := h
  refine (q_use hG f hA.lo ok.i ok.a ok.k ok.u ok.f).mono ?_
  rintro e w' ⟨k, he, hQ⟩
  have hgG := hG.not hg (by decide) (by decide) (by decide)
  exact ⟨k, he, hto _ _ _ _ _ _ hQ, by obtain ⟨_, _, hT, _⟩ := hQ; exact (hT.block g (Array.getElem?_eq_some_iff.1 hg).1 hgG).trans hg⟩
def StepPost (w : World) (lo : Nat) (c : EnC) (F : Nat → Prop) (E : EnS) (f : Nat) (e : Ending) (w' : World) : Prop := e = .returned (.int .i64 0) ∧ ∃ hh, EnTo w lo c F (E.step f hh) w'
set_option maxRecDepth 100000 in
theorem ls_two {W : World} {g : Nat} {a b : Value} {T : TypeId} (h : W.heap[g]? = some (.cells #[a, b] T (0, 0))) : W.cell? ⟨g, 0, none⟩ = some a ∧ W.cell? ⟨g, 1, none⟩ = some b := ⟨(cell_of_block h).trans rfl, (cell_of_block h).trans rfl⟩
set_option maxRecDepth 100000 in
theorem st_plain_all (S : Nat → Int) : (stA S).all (·.oneCell') = true := st_plain S
attribute [local irreducible] wIndex stA blk wLoad wLoadRes loadAns wStore wStoreRes storeAns Plain stepF
attribute [local go_sem ↓] ix_qs0 ld_st0 sto_st0
attribute [local go_sem] ix_qs_0 ix_qs_1
section
variable {w : World} {lo : Nat} {c : EnC} {F0 F1 FS : Nat → Prop} {E : EnS} {f : Nat}
set_option maxRecDepth 100000 in
set_option maxHeartbeats 4000000 in
theorem e_step (h : EnAt w lo c F0 F1 FS E) (ok : StOk E f) : Calls Try.prog 36 #[.pointer (some ⟨c.x, 0, none⟩)] w (StepPost w lo c (enFoot c F0 F1 FS) E f) := by
  have hB : Below w.heap.size w (w.alloc (.cells #[.int .u16 0, .int .u16 0] 52)) := (Below.refl _ _).alloc (Nat.le_refl _) _
  have hg0 : Hid ((w.alloc (.cells #[.int .u16 0, .int .u16 0] 52)).heap[w.heap.size]? = some (.cells #[.int .u16 0, .int .u16 0] 52 (0, 0))) := hide (last0 _ _ _ rfl)
  have hE0 : Hid (EnTo w lo c (enFoot c F0 F1 FS) E (w.alloc (.cells #[.int .u16 0, .int .u16 0] 52))) := hide (h.to.below hB)
  have okh := Lib.hid ok
  generalize enFoot c F0 F1 FS = F at *
  clear h ok hB
  obtain ⟨x, hx⟩ : ∃ x, c.x = x := ⟨_, rfl⟩
  have hxh := Lib.hid hx
  rw [hx]
  clear hx
  go_enter Try.func36, Try.ntmps36
  go_upto_region 2 with (fail)
  obtain ⟨g, hg⟩ : ∃ g, w.heap.size = g := ⟨_, rfl⟩
  have hgh := Lib.hid hg
  generalize World.alloc w _ = w0 at *
  rw [hg] at hg0 ⊢
  clear hg
  have c4 : w0.cell? ⟨x, 4, none⟩ = some (.pointer (some ⟨c.p0, 0, none⟩)) := by rw [← hxh.out]; exact hE0.out.blk.p0
  have c5 : w0.cell? ⟨x, 5, none⟩ = some (.pointer (some ⟨c.p1, 0, none⟩)) := by rw [← hxh.out]; exact hE0.out.blk.p1
  go_upto_region 3 with (fail)
  clear c4 c5
  go_loopw [13] (fun v13 wr => (v13 = .int .i64 0 ∧ Hid (EnTo w lo c F E wr) ∧ Hid (wr.heap[g]? = some (.cells #[.int .u16 0, .int .u16 0] 52 (0, 0)))) ∨ (v13 = .int .i64 1 ∧ Hid (EnTo w lo c F { E with Q0 := E.Q0.use f } wr) ∧ Hid (wr.heap[g]? = some (.cells #[.int .u16 (inAt E.Q0.I f), .int .u16 0] 52 (0, 0)))) ∨ (v13 = .int .i64 2 ∧ Hid (EnTo w lo c F { E with Q0 := E.Q0.use f, Q1 := E.Q1.use f } wr) ∧ Hid (wr.heap[g]? = some (.cells #[.int .u16 (inAt E.Q0.I f), .int .u16 (inAt E.Q1.I f)] 52 (0, 0))))) (fun v13 _ => 2 - (intOf v13).toNat)
  case atStart => exact .inl ⟨rfl, hE0, hg0⟩
  case round =>
    clear hE0 hg0
    rcases hrel with ⟨rfl, hE, hgb⟩ | ⟨rfl, hE, hgb⟩ | ⟨rfl, hE, hgb⟩
    · have cf : wr.cell? ⟨x, 7, none⟩ = some (.int .i64 (f : Nat)) := by rw [← hxh.out, ← okh.out.fr]; exact hE.out.blk.frame
      have ku := Lib.hid (EnAt.q0_use hE.out okh.out.q0 hgb.out)
      go_wp2_with fail
      refine ku.out.mono ?_
      rintro e w2 ⟨k, rfl, hE2, hg2⟩
      obtain ⟨ci0, ci1⟩ := ls_two hg2
      have fi0 := frozen_of_row _ g 0 _ _ hg2
      have hg9 : Hid ((w2.setCell ⟨g, 0, none⟩ (.int .u16 (inAt E.Q0.I f))).heap[g]? = some (.cells #[.int .u16 (inAt E.Q0.I f), .int .u16 0] 52 (0, 0))) := hide (by rw [blk_set hg2 0 _]; rfl)
      have hE9 : Hid (EnTo w lo c F { E with Q0 := E.Q0.use f } (w2.setCell ⟨g, 0, none⟩ (.int .u16 (inAt E.Q0.I f)))) := hide (hE2.off (touch_set w2 g 0 _) hg2 (by decide) (by decide) (by decide) (by decide) (by decide) (by decide) (by decide) (by rw [hgh.out]; exact Nat.le_refl _))
      clear hE2 hg2 hE hgb cf ku
      go_wp2_with fail
      refine ⟨?_, ?_⟩
      rotate_left
      · simp [intOf]
      first
        | exact .inr (.inl ⟨rfl, hE9, hg9⟩)
        | (repeat (apply Exists.intro)
           exact ⟨.inr (.inl ⟨rfl, hE9, hg9⟩), rfl⟩)
    · have cf : wr.cell? ⟨x, 7, none⟩ = some (.int .i64 (f : Nat)) := by rw [← hxh.out, ← okh.out.fr]; exact hE.out.blk.frame
      have ku := Lib.hid (EnAt.q1_use (E := { E with Q0 := E.Q0.use f }) hE.out okh.out.q1 hgb.out)
      go_wp2_with fail
      refine ku.out.mono ?_
      rintro e w2 ⟨k, rfl, hE2, hg2⟩
      obtain ⟨ci0, ci1⟩ := ls_two hg2
      have fi0 := frozen_of_row _ g 1 _ _ hg2
      have hg9 : Hid ((w2.setCell ⟨g, 1, none⟩ (.int .u16 (inAt E.Q1.I f))).heap[g]? = some (.cells #[.int .u16 (inAt E.Q0.I f), .int .u16 (inAt E.Q1.I f)] 52 (0, 0))) := hide (by rw [blk_set hg2 1 _]; rfl)
      have hE9 : Hid (EnTo w lo c F { E with Q0 := E.Q0.use f, Q1 := E.Q1.use f } (w2.setCell ⟨g, 1, none⟩ (.int .u16 (inAt E.Q1.I f)))) := hide (hE2.off (touch_set w2 g 1 _) hg2 (by decide) (by decide) (by decide) (by decide) (by decide) (by decide) (by decide) (by rw [hgh.out]; exact Nat.le_refl _))
      clear hE2 hg2 hE hgb cf ku
      go_wp2_with fail
      refine ⟨?_, ?_⟩
      rotate_left
      · simp [intOf]
      first
        | exact .inr (.inr ⟨rfl, hE9, hg9⟩)
        | (repeat (apply Exists.intro)
           exact ⟨.inr (.inr ⟨rfl, hE9, hg9⟩), rfl⟩)
    · have hS' : Hid (stepF (inAt E.Q0.I f) (inAt E.Q1.I f) E.S = stepF (inAt E.Q0.I f) (inAt E.Q1.I f) E.S) := hide rfl
      have hfin : Hid (∀ hh W', EnTo w lo c F { ({ E with Q0 := E.Q0.use f, Q1 := E.Q1.use f, S := stepF (inAt E.Q0.I f) (inAt E.Q1.I f) E.S } : EnS) with sf := (saveF E.sf E.L (stepF (inAt E.Q0.I f) (inAt E.Q1.I f) E.S) hh (f + 1)).1, L := (saveF E.sf E.L (stepF (inAt E.Q0.I f) (inAt E.Q1.I f) E.S) hh (f + 1)).2 } W' → StepPost w lo c F E f (.returned (.int .i64 0)) W') := hide (fun hh W' h => ⟨rfl, hh, h⟩)
      have hok9 : Hid (GOk (stepF (inAt E.Q0.I f) (inAt E.Q1.I f) E.S) ∧ stepF (inAt E.Q0.I f) (inAt E.Q1.I f) E.S 0 = ((f + 1 : Nat) : Int)) := hide ⟨okh.out.ok.step, by
        have hlt := okh.out.q0.f
        have hlt2 := okh.out.q0.a
        rw [step_frame, okh.out.fr, show (f : Int) + 1 = ((f + 1 : Nat) : Int) by omega]
        unfold wrap64
        omega⟩
      clear hS'
      have hstep := Lib.hid (fun W => g_step E.S (inAt E.Q0.I f) (inAt E.Q1.I f) W okh.out.ok)
      generalize stepF (inAt E.Q0.I f) (inAt E.Q1.I f) E.S = S9 at *
      obtain ⟨ci0, ci1⟩ := ls_two hgb.out
      generalize inAt E.Q0.I f = v0 at *
      generalize inAt E.Q1.I f = v1 at *
      go_upto_region 10 with (fail)
      have hEd : Hid (EnTo w lo c F { E with Q0 := E.Q0.use f, Q1 := E.Q1.use f } wr.drew) := hide (hE.out.drewN 1)
      have hHeld : (fun y : World => y.cell? ⟨g, 0, none⟩ = some (.int .u16 v0) ∧ y.cell? ⟨g, 1, none⟩ = some (.int .u16 v1)) wr.drew := ⟨ci0, ci1⟩
      have hgd : Hid (wr.drew.heap[g]? = some (.cells #[.int .u16 v0, .int .u16 v1] 52 (0, 0))) := hide hgb.out
      refine h_begin 10 (fun y : World => y.cell? ⟨g, 0, none⟩ = some (.int .u16 v0) ∧ y.cell? ⟨g, 1, none⟩ = some (.int .u16 v1)) rfl (by kernel_rfl) hHeld ?_
      clear ci0 ci1 hE hgb
      generalize wr.drew = w3 at *
      first
        | (refine h_run (i := 0) (v := ?_) hHeld rfl (by kernel_rfl) (by kernel_rfl) (by kernel_rfl) ?_ ?_ ?_
           rotate_left
           · rfl
           · (intro x hSx; (try dsimp only at hSx); go_simp <;> with_reducible rfl)
           simp only [Act.put, List.setIfInBounds_toArray, List.set_cons_zero, List.set_cons_succ])
        | (refine h_skip (i := 0) hHeld rfl (by kernel_rfl) (by kernel_rfl) (by kernel_rfl) ?_ ?_
           · rfl
           simp only [Act.put, List.setIfInBounds_toArray, List.set_cons_zero, List.set_cons_succ])
      first
        | (refine h_run (i := 1) (v := ?_) hHeld rfl (by kernel_rfl) (by kernel_rfl) (by kernel_rfl) ?_ ?_ ?_
           rotate_left
           · rfl
           · (intro x hSx; (try dsimp only at hSx); go_simp <;> with_reducible rfl)
           simp only [Act.put, List.setIfInBounds_toArray, List.set_cons_zero, List.set_cons_succ])
        | (refine h_skip (i := 1) hHeld rfl (by kernel_rfl) (by kernel_rfl) (by kernel_rfl) ?_ ?_
           · rfl
           simp only [Act.put, List.setIfInBounds_toArray, List.set_cons_zero, List.set_cons_succ])
      first
        | (refine h_run (i := 2) (v := ?_) hHeld rfl (by kernel_rfl) (by kernel_rfl) (by kernel_rfl) ?_ ?_ ?_
           rotate_left
           · rfl
           · (intro x hSx; (try dsimp only at hSx); go_simp <;> with_reducible rfl)
           simp only [Act.put, List.setIfInBounds_toArray, List.set_cons_zero, List.set_cons_succ])
        | (refine h_skip (i := 2) hHeld rfl (by kernel_rfl) (by kernel_rfl) (by kernel_rfl) ?_ ?_
           · rfl
           simp only [Act.put, List.setIfInBounds_toArray, List.set_cons_zero, List.set_cons_succ])
      first
        | (refine h_run (i := 3) (v := ?_) hHeld rfl (by kernel_rfl) (by kernel_rfl) (by kernel_rfl) ?_ ?_ ?_
           rotate_left
           · rfl
           · (intro x hSx; (try dsimp only at hSx); go_simp <;> with_reducible rfl)
           simp only [Act.put, List.setIfInBounds_toArray, List.set_cons_zero, List.set_cons_succ])
        | (refine h_skip (i := 3) hHeld rfl (by kernel_rfl) (by kernel_rfl) (by kernel_rfl) ?_ ?_
           · rfl
           simp only [Act.put, List.setIfInBounds_toArray, List.set_cons_zero, List.set_cons_succ])
      first
        | (refine h_run (i := 5) (v := ?_) hHeld rfl (by kernel_rfl) (by kernel_rfl) (by kernel_rfl) ?_ ?_ ?_
           rotate_left
           · rfl
           · (intro x hSx; (try dsimp only at hSx); go_simp <;> with_reducible rfl)
           simp only [Act.put, List.setIfInBounds_toArray, List.set_cons_zero, List.set_cons_succ])
        | (refine h_skip (i := 5) hHeld rfl (by kernel_rfl) (by kernel_rfl) (by kernel_rfl) ?_ ?_
           · rfl
           simp only [Act.put, List.setIfInBounds_toArray, List.set_cons_zero, List.set_cons_succ])
      have hld : (wLoad 49 (.pointer (some ⟨x, 7, none⟩))).run Try.prog w3 = .ok (.agg (stA E.S)) w3 := by rw [← ld_st0, ← hxh.out]; exact hEd.out.blk.load
      refine h_value (i := 4) (v := .agg (stA E.S)) (w' := w3) (fun y : World => y.cell? ⟨g, 0, none⟩ = some (.int .u16 v0) ∧ y.cell? ⟨g, 1, none⟩ = some (.int .u16 v1)) (fun _ h => h) rfl (by kernel_rfl) rfl ?_ hHeld ?_
      · go_simp
      refine h_call (i := 6) (fun y : World => y.cell? ⟨g, 0, none⟩ = some (.int .u16 v0) ∧ y.cell? ⟨g, 1, none⟩ = some (.int .u16 v1)) (fun _ h => h) (hstep.out w3) rfl (by kernel_rfl) rfl ?_ ?_
      · go_simp <;> with_reducible rfl
      rintro _ w4 ⟨rfl, hB4⟩
      have hE4 := Lib.hid (hEd.out.below hB4)
      have hg4 : Hid (w4.heap[g]? = some (.cells #[.int .u16 v0, .int .u16 v1] 52 (0, 0))) := hide ((hB4.block g (Array.getElem?_eq_some_iff.1 hgd.out).1).trans hgd.out)
      have hHeld : (fun y : World => y.cell? ⟨g, 0, none⟩ = some (.int .u16 v0) ∧ y.cell? ⟨g, 1, none⟩ = some (.int .u16 v1)) w4 := ls_two hg4.out
      refine ⟨_, rfl, hHeld, ?_⟩
      simp only [Act.put, List.setIfInBounds_toArray, List.set_cons_zero, List.set_cons_succ]
      clear hEd hgd hB4 hld
      first
        | (refine h_run (i := 7) (v := ?_) hHeld rfl (by kernel_rfl) (by kernel_rfl) (by kernel_rfl) ?_ ?_ ?_
           rotate_left
           · rfl
           · (intro x hSx; (try dsimp only at hSx); go_simp <;> with_reducible rfl)
           simp only [Act.put, List.setIfInBounds_toArray, List.set_cons_zero, List.set_cons_succ])
        | (refine h_skip (i := 7) hHeld rfl (by kernel_rfl) (by kernel_rfl) (by kernel_rfl) ?_ ?_
           · rfl
           simp only [Act.put, List.setIfInBounds_toArray, List.set_cons_zero, List.set_cons_succ])
      first
        | (refine h_run (i := 8) (v := ?_) hHeld rfl (by kernel_rfl) (by kernel_rfl) (by kernel_rfl) ?_ ?_ ?_
           rotate_left
           · rfl
           · (intro x hSx; (try dsimp only at hSx); go_simp <;> with_reducible rfl)
           simp only [Act.put, List.setIfInBounds_toArray, List.set_cons_zero, List.set_cons_succ])
        | (refine h_skip (i := 8) hHeld rfl (by kernel_rfl) (by kernel_rfl) (by kernel_rfl) ?_ ?_
           · rfl
           simp only [Act.put, List.setIfInBounds_toArray, List.set_cons_zero, List.set_cons_succ])
      obtain ⟨hth, hput, hTp⟩ := (EnB.put (S' := S9) hE4.out.blk)
      have hE5 := Lib.hid (hE4.out.b hTp (fun _ => hput))
      have hst : (Instr.storeAt 49 (.pointer (some ⟨x, 7, none⟩)) (.agg (stA S9))).run Try.prog w4 = .ok () (w4.setCells x 7 (stA S9).toList) := by rw [← hxh.out]; exact run_storeAt_mid w4 c.x 7 _ _ hth (st_infoA S9) (st_plain_all S9)
      have hg5 : Hid ((w4.setCells x 7 (stA S9).toList).heap[g]? = some (.cells #[.int .u16 v0, .int .u16 v1] 52 (0, 0))) := hide (by
        obtain ⟨r1, r2, hxb⟩ := hE4.out.blk
        rw [← hxh.out]
        exact (hTp.block g (Array.getElem?_eq_some_iff.1 hg4.out).1 (fun e => bty_ne hg4.out hxb (by decide) e)).trans hg4.out)
      rw [hxh.out] at hE5
      clear hth hput hTp hE4 hg4
      refine h_write (i := 9) (w' := w4.setCells x 7 (stA S9).toList) (fun y : World => y.cell? ⟨g, 0, none⟩ = some (.int .u16 v0) ∧ y.cell? ⟨g, 1, none⟩ = some (.int .u16 v1)) (fun _ h => h) rfl (by kernel_rfl) rfl ?_ (ls_two hg5.out) ?_
      · exact exec_store (.tmp 43) (.tmp 41) _ rfl rfl rfl hst
      refine h_done (by kernel_rfl) ?_
      simp only [Act.put, List.setIfInBounds_toArray, List.set_cons_zero, List.set_cons_succ]
      clear hst hHeld hg5
      generalize World.setCells w4 _ _ _ = w5 at *
      have c6 : w5.cell? ⟨x, 6, none⟩ = some (.pointer (some ⟨c.ps, 0, none⟩)) := by rw [← hxh.out]; exact hE5.out.blk.ps
      have hld : (wLoad 49 (.pointer (some ⟨x, 7, none⟩))).run Try.prog w5.drew = .ok (.agg (stA S9)) w5.drew := by rw [← ld_st0, ← hxh.out]; exact (hE5.out.blk.drewN 1).load
      have ksv : Hid (Calls Try.prog 30 #[.pointer (some ⟨c.ps, 0, none⟩), .agg (stA S9)] w5.drew (fun e w' => e = .returned (.int .i64 0) ∧ ∃ hh, EnTo w lo c F { ({ E with Q0 := E.Q0.use f, Q1 := E.Q1.use f, S := S9 } : EnS) with sf := (saveF E.sf E.L S9 hh (f + 1)).1, L := (saveF E.sf E.L S9 hh (f + 1)).2 } w')) := hide (by
        obtain ⟨G, hG, hto⟩ := (hE5.out.drewN 1).sv
        obtain ⟨F0, F1, FS, hA⟩ := (hE5.out.drewN 1).ctx
        have h1 := okh.out.sf
        have h2 := okh.out.le
        have h3 := okh.out.l
        have h4 := okh.out.lb
        refine (s_save hG S9 (f + 1) hA.lo hok9.out.2 (by show E.sf ≤ _; omega) (by show _ ≤ E.sf + E.L.length; omega) h3 (by show 1 ≤ E.L.length; omega) (by show E.sf + E.L.length ≤ _; omega)).mono ?_
        rintro e w' ⟨he, hh, hQ⟩
        exact ⟨he, hh, hto _ _ _ hQ⟩)
      clear hE5
      go_upto_region 11 with (fail)
      go_still_tail 8, (by kernel_rfl)
      go_wp2_with fail
      refine ksv.out.mono ?_
      rintro e w6 ⟨rfl, hh, hE6⟩
      have hend := Lib.hid (hfin.out hh w6 hE6)
      clear hE6
      go_wp2_with fail
      go_ret
      exact hend.out
end
end Go.Proofs.Ytmfagdbocidfjaa

/- An engine: many frames more; numbers told. Lemmas alone. -/
namespace Go.Proofs.Ytmfagdbocidfjaa
open Go.RowKit
set_option maxRecDepth 100000 in
theorem useL_len (A : List Int) (f : Nat) (v : Int) (h : f ≤ A.length) : (useL A f v).length = max A.length (f + 1) := by
  unfold useL
  split
  · rw [List.length_append]; simp; omega
  · rw [List.length_set]; omega
set_option maxRecDepth 100000 in
theorem useL_get (A : List Int) (f : Nat) (v : Int) (h : f ≤ A.length) (m : Nat) : (useL A f v)[m]? = if m = f then some v else A[m]? := by
  unfold useL
  by_cases e : f = A.length
  · rw [if_pos e]
    by_cases em : m = f
    · rw [if_pos em, em, e, List.getElem?_append_right (Nat.le_refl _)]; simp
    · rw [if_neg em]
      rcases Nat.lt_or_ge m A.length with h | h
      · rw [List.getElem?_append_left h]
      · rw [List.getElem?_eq_none (l := A ++ [v]) (by rw [List.length_append, List.length_singleton]; omega), List.getElem?_eq_none (l := A) h]
  · rw [if_neg e, List.getElem?_set]
    by_cases em : m = f
    · rw [if_pos em, if_pos em.symm, if_pos (by omega)]
    · rw [if_neg em, if_neg (fun e => em e.symm)]
set_option maxRecDepth 100000 in
theorem saveF_sum (first : Nat) (L : List ((Nat → Int) × Int)) (S : Nat → Int) (hh : Int) (g : Nat) (h1 : first ≤ g) (h2 : g ≤ first + L.length) (h3 : L.length ≤ 64) :
    (saveF first L S hh g).1 + (saveF first L S hh g).2.length = g + 1 ∧ (saveF first L S hh g).2.length ≤ 64 ∧ (saveF first L S hh g).1 ≤ g := by
  unfold saveF putF
  have hl : (L.take (g - first)).length = g - first := by rw [List.length_take]; omega
  rw [hl]
  split
  · rename_i e
    refine ⟨?_, ?_, ?_⟩
    · show first + 1 + ((L.take (g - first)).drop 1 ++ [(S, hh)]).length = g + 1
      rw [List.length_append, List.length_drop, hl]; simp; omega
    · show ((L.take (g - first)).drop 1 ++ [(S, hh)]).length ≤ 64
      rw [List.length_append, List.length_drop, hl]; simp; omega
    · show first + 1 ≤ g
      omega
  · refine ⟨?_, ?_, ?_⟩
    · show first + (L.take (g - first) ++ [(S, hh)]).length = g + 1
      rw [List.length_append, hl]; simp; omega
    · show (L.take (g - first) ++ [(S, hh)]).length ≤ 64
      rw [List.length_append, hl]; simp; omega
    · show first ≤ g
      omega
set_option maxRecDepth 100000 in
theorem PlOk.use {Q : PlS} {f : Nat} (h : PlOk Q f) (hf : f + 1 < 256) : PlOk (Q.use f) (f + 1) := by
  have hl := useL_len Q.A f (inAt Q.I f) h.f
  have := h.a
  exact ⟨h.i, by show (useL _ _ _).length < _; omega, Nat.le_succ_of_le h.k, Nat.le_succ_of_le h.u, by show _ ≤ (useL _ _ _).length; omega⟩
set_option maxRecDepth 100000 in
theorem StOk.step {E : EnS} {f : Nat} (h : StOk E f) (hf : f + 1 < 256) (hh : Int) : StOk (E.step f hh) (f + 1) ∧ (E.step f hh).sf + (E.step f hh).L.length = f + 2 := by
  obtain ⟨h1, h2, h3⟩ := saveF_sum E.sf E.L (stepF (inAt E.Q0.I f) (inAt E.Q1.I f) E.S) hh (f + 1) (Nat.le_succ_of_le h.sf) h.le h.l
  refine ⟨⟨?_, h.q0.use hf, h.q1.use hf, h3, ?_, h2, ?_, h.ok.step⟩, h1⟩
  · show stepF _ _ _ 0 = _
    rw [step_frame, h.fr]
    unfold wrap64
    omega
  · show f + 1 + 1 ≤ (saveF _ _ _ _ _).1 + (saveF _ _ _ _ _).2.length; omega
  · show (saveF _ _ _ _ _).1 + (saveF _ _ _ _ _).2.length ≤ 9000; omega
/-- so many frames more, from one on -/
def Steps (E : EnS) (r : Nat) : Nat → EnS → Prop
  | 0, E' => E' = E
  | n + 1, E' => ∃ E'' hh, Steps E r n E'' ∧ E' = E''.step (r + n) hh
set_option maxRecDepth 100000 in
theorem Steps.ok {E : EnS} {r : Nat} (h : StOk E r) : ∀ {n : Nat} {E' : EnS}, Steps E r n E' → r + n < 256 → StOk E' (r + n) ∧ (0 < n → E'.sf + E'.L.length = r + n + 1)
  | 0, E', hs, _ => by cases (show E' = E from hs); exact ⟨h, fun h => absurd h (by omega)⟩
  | n + 1, E', ⟨E'', hh, h1, h2⟩, hn => by
    subst h2
    have := (Steps.ok h h1 (by omega)).1.step (by omega) hh
    exact ⟨this.1, fun _ => this.2⟩
set_option maxRecDepth 100000 in
theorem Steps.wo {E : EnS} {r : Nat} : ∀ {n : Nat} {E' : EnS}, Steps E r n E' → E'.wo = E.wo
  | 0, E', hs => by cases (show E' = E from hs); rfl
  | n + 1, E', ⟨E'', hh, h1, h2⟩ => by subst h2; exact (Steps.wo h1 : E''.wo = E.wo)
/-- nothing is thought wrong any more -/
def EnS.calm (E : EnS) : EnS := { E with Q0 := ⟨E.Q0.I, E.Q0.A, E.Q0.kf, E.Q0.uf, -1⟩, Q1 := ⟨E.Q1.I, E.Q1.A, E.Q1.kf, E.Q1.uf, -1⟩ }
def minW (n : Int) (wr : Int) : Int := if 0 ≤ wr then min n wr else n
attribute [local irreducible] stA enA
set_option maxRecDepth 100000 in
/-- the three last numbers are turned -/
theorem EnB.tail {W : World} {c : EnC} {S : Nat → Int} {r1 r2 wo a b d : Int} (h : W.heap[c.x]? = some (.cells (enA c S r1 r2 wo) 86 (0, 0))) :
    EnB (((W.setCell ⟨c.x, 73, none⟩ (.int .i64 a)).setCell ⟨c.x, 74, none⟩ (.int .i64 b)).setCell ⟨c.x, 75, none⟩ (.int .i64 d)) c S d := by
  refine ⟨a, b, ?_⟩
  rw [blk_set (blk_set (blk_set h 73 _) 74 _) 75 _]
  suffices hC : (((enA c S r1 r2 wo).setIfInBounds 73 (.int .i64 a)).setIfInBounds 74 (.int .i64 b)).setIfInBounds 75 (.int .i64 d) = enA c S a b d by rw [hC]
  apply Array.ext_getElem?
  intro i
  rw [Array.getElem?_setIfInBounds, Array.getElem?_setIfInBounds, Array.getElem?_setIfInBounds, Array.size_setIfInBounds, Array.size_setIfInBounds, enA_size]
  rcases Nat.lt_or_ge i 7 with hi | hi
  · rw [if_neg (by omega), if_neg (by omega), if_neg (by omega), enA_lo c S r1 r2 wo hi, enA_lo c S a b d hi]
  · rcases Nat.lt_or_ge i 73 with hi2 | hi2
    · obtain ⟨o, rfl⟩ : ∃ o, i = 7 + o := ⟨i - 7, by omega⟩
      rw [if_neg (by omega), if_neg (by omega), if_neg (by omega), enA_st c S r1 r2 wo (by omega), enA_st c S a b d (by omega)]
    · obtain ⟨o, rfl⟩ : ∃ o, i = 73 + o := ⟨i - 73, by omega⟩
      rw [enA_hi c S a b d]
      by_cases e2 : o = 2
      · subst e2; rfl
      · rw [if_neg (by omega)]
        by_cases e1 : o = 1
        · subst e1; rfl
        · rw [if_neg (by omega)]
          by_cases e0 : o = 0
          · subst e0; rfl
          · rw [if_neg (by omega), enA_hi, Array.getElem?_eq_none (by show 3 ≤ o; omega), Array.getElem?_eq_none (by show 3 ≤ o; omega)]
set_option maxRecDepth 100000 in
theorem EnB.nums {W : World} {c : EnC} {S : Nat → Int} {wo : Int} (h : EnB W c S wo) : ∃ r1 r2, W.heap[c.x]? = some (.cells (enA c S r1 r2 wo) 86 (0, 0)) ∧ W.cell? ⟨c.x, 73, none⟩ = some (.int .i64 r1) ∧ W.cell? ⟨c.x, 74, none⟩ = some (.int .i64 r2) ∧ W.cell? ⟨c.x, 75, none⟩ = some (.int .i64 wo) ∧ ∀ o, W.frozen? ⟨c.x, o, none⟩ = false := by
  obtain ⟨r1, r2, h⟩ := h
  exact ⟨r1, r2, h, (cell_of_block h).trans ((enA_hi c S r1 r2 wo (i := 0)).trans rfl), (cell_of_block h).trans ((enA_hi c S r1 r2 wo (i := 1)).trans rfl), (cell_of_block h).trans ((enA_hi c S r1 r2 wo (i := 2)).trans rfl), fun o => frozen_of_row W c.x o _ _ h⟩
set_option maxRecDepth 100000 in
theorem touch_three (W : World) (p i j k : Nat) (x y z : Value) : Touch W (((W.setCell ⟨p, i, none⟩ x).setCell ⟨p, j, none⟩ y).setCell ⟨p, k, none⟩ z) (fun b => b = p) := Touch.grown (only_set (only_set (only_set (only_refl W (some p)) i x) j y) k z) (fun _ hb => (Option.some.inj hb).symm)
def frameOf (x : Nat) (w : World) : Nat := match w.cell? ⟨x, 7, none⟩ with
  | some (.int _ k) => k.toNat
  | _ => 0
end Go.Proofs.Ytmfagdbocidfjaa

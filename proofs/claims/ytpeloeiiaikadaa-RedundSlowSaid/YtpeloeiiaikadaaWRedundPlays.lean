/- The walk of the law RedundPlays: it answers true for all groups. -/
import Derived.Test.YtpeloeiiaikadaaRedund3
import Derived.StillTailTactics
namespace Go.Proofs.Ytpeloeiiaikadaa
open Go.RowKit
def AskAt (w : World) (s : Option Addr) (len : Nat) (g : Nat → Int × Int) : Prop := ∀ i, i < len → ∃ b off, s = some ⟨b, off, none⟩ ∧
  w.cell? ⟨b, off + i * 2, none⟩ = some (.int .i64 (g i).1) ∧ w.cell? ⟨b, off + i * 2 + 1, none⟩ = some (.int .i64 (g i).2)
theorem AskAt.below {w w' : World} {a : Option Addr} {len : Nat} {g : Nat → Int × Int} (h : AskAt w a len g) (hb : Below w.heap.size w w') : AskAt w' a len g := by
  intro i hi
  obtain ⟨b, off, ha, c0, c1⟩ := h i hi
  have hl := cell_block_lt c0
  exact ⟨b, off, ha, (hb.cell (p := ⟨b, off + i * 2, none⟩) hl).trans c0, (hb.cell (p := ⟨b, off + i * 2 + 1, none⟩) hl).trans c1⟩
theorem asks_open {w : World} {a : Option Addr} {len cap : Nat} (h : IsRec [some .i64, some .i64] w a len cap) : ∃ g, AskAt w a len g := by
  obtain ⟨f, hk, hc, _⟩ := h
  have key : ∀ i, ∃ o : Int × Int, i < len → f i 0 = .int .i64 o.1 ∧ f i 1 = .int .i64 o.2 := by
    intro i
    by_cases hi : i < len
    · obtain ⟨t, h0, w0⟩ := (hk i 0 (some .i64) hi rfl).int
      obtain ⟨l, h1, w1⟩ := (hk i 1 (some .i64) hi rfl).int
      exact ⟨⟨t, l⟩, fun _ => ⟨h0, h1⟩⟩
    · exact ⟨⟨0, 0⟩, fun h => absurd h hi⟩
  refine ⟨fun i => (key i).choose, fun i hi => ?_⟩
  obtain ⟨h0, h1⟩ := (key i).choose_spec hi
  obtain ⟨b, off, ha, hcell⟩ := hc i hi
  refine ⟨b, off, ha, ?_, ?_⟩
  · rw [← h0]; exact hcell 0 (by decide)
  · rw [← h1]; exact hcell 1 (by decide)
theorem zeroRct (w : World) : (zeroValue 31).run Try.prog w = .ok (.agg #[.int .i64 0, .int .i64 0, .int .i64 0]) w := by kernel_rfl
theorem ctA_eq (s : CtS) : ctA s = #[.int .i64 s.now, .int .i64 s.most, .int .i64 s.calm] := rfl
theorem ctNext_most (s : CtS) (t : Int) : (ctNext s t).most = s.most := by unfold ctNext; split <;> (try split) <;> rfl
attribute [local irreducible] tgZ
attribute [local irreducible] blk wLoad wLoadRes loadAns wStore wStoreRes storeAns Plain
attribute [local go_sem ↓] ld_rc0 sto_rc0
attribute [local go_sem] ld_rc sto_rc loadAns_some storeAns_some ct_size ct_plain blk_alloc_if blk_setRow_if blk_drew_at blk_drewN_at rowPut_some
set_option maxRecDepth 100000 in
set_option maxHeartbeats 4000000 in
theorem redundPlays_walk (a0 : Int) (a1 : Option Addr) (len1 cap1 : Nat) (w : World) (w0 : (Lit.int .i64 a0).wf = true) (w1 : IsRec [some .i64, some .i64] w a1 len1 cap1) :
    Calls Try.prog 4 #[.int .i64 a0, .slice a1 len1 cap1] w fun e w' => e = .returned (.bool true) ∧ Below w.heap.size w w' := by
  obtain ⟨g, hg⟩ := asks_open w1
  have hn : len1 ≤ 9223372036854775807 := by obtain ⟨_, _, _, h1, h2, _⟩ := w1; unfold maxLen at h2; omega
  have hgh := hide hg
  have hz := zeroRct
  clear w0 w1 hg
  by_cases hr : a0 < 0 ∨ 16 < a0
  · have kn := Lib.hid (fun X => s_new_no a0 X hr)
    have hd : decide (a0 < 0) = true ∨ (decide (a0 < 0) = false ∧ decide (16 < a0) = true) := by
      rcases hr with h | h
      · exact .inl (decide_eq_true h)
      · exact .inr ⟨decide_eq_false (by omega), decide_eq_true h⟩
    clear hr
    rcases hd with hd | ⟨hd, hd2⟩
    all_goals
      go_enter Try.func4, Try.ntmps4
      go_wp2_with fail
      refine (rd_awake w).mono ?_
      rintro e w1 ⟨rfl, hb1⟩
      go_wp2_with fail
      refine (kn.out _).mono ?_
      rintro e w' ⟨rfl, rfl⟩
      go_wp2_with fail
      go_ret
      exact ⟨rfl, hb1⟩
  have m0 : 0 ≤ a0 := by omega
  have m1 : a0 ≤ 16 := by omega
  have hd : decide (a0 < 0) = false := decide_eq_false (by omega)
  have hd2 : decide (16 < a0) = false := decide_eq_false (by omega)
  have kn := Lib.hid (fun X => s_new_ok a0 X m0 m1)
  clear hr
  go_enter Try.func4, Try.ntmps4
  go_wp2_with fail
  refine (rd_awake w).mono ?_
  rintro e w1 ⟨rfl, hb1⟩
  have hs1 := hb1.size
  go_wp2_with fail
  refine (kn.out _).mono ?_
  rintro e w2 ⟨rfl, hC, hb2⟩
  have hB := hb1.trans (hb2.mono hs1)
  have hpl := hC.lt
  clear hb1 hb2 kn
  generalize w1.heap.size = p at *
  go_upto_region 9 with (fail)
  have hX0 : blk ((w2.alloc (.cells #[.int .i64 0, .int .i64 0, .int .i64 0] 31)).setRow w2.heap.size #[.int .i64 0, .int .i64 a0, .int .i64 0]) w2.heap.size = some (.cells #[.int .i64 0, .int .i64 a0, .int .i64 0] 31 (0, 0)) := blk_of (setRow_heap _ _ _ _ _ _ (last_block0 w2 _ _ rfl))
  have hXK : blk ((w2.alloc (.cells #[.int .i64 0, .int .i64 0, .int .i64 0] 31)).setRow w2.heap.size #[.int .i64 0, .int .i64 a0, .int .i64 0]) p = some (.cells (ctA ⟨0, a0, 0⟩) 36 (0, 0)) := blk_of ((setRow_other _ _ _ _ (by omega)).trans (blk_alloc hC _))
  have hXB : Below w.heap.size w ((w2.alloc (.cells #[.int .i64 0, .int .i64 0, .int .i64 0] 31)).setRow w2.heap.size #[.int .i64 0, .int .i64 a0, .int .i64 0]) := below_setRow (hB.alloc hB.size _) hB.size _
  generalize World.setRow _ _ _ = V at hX0 hXK hXB ⊢
  have hq := hB.size
  generalize w2.heap.size = q at *
  have x0h := Lib.hid hX0
  have xKh := Lib.hid hXK
  have xBh := Lib.hid hXB
  clear hX0 hXK hXB hC hB hz
  go_wp2_with fail
  go_loopw [8] (fun i wr => ∃ (k : Nat) (now calm : Int), k ≤ len1 ∧ k ≤ 200 ∧ i = .int .i64 k ∧ CtOk ⟨now, a0, calm⟩ ∧ blk wr q = some (.cells #[.int .i64 now, .int .i64 a0, .int .i64 calm] 31 (0, 0)) ∧ blk wr p = some (.cells (ctA ⟨now, a0, calm⟩) 36 (0, 0)) ∧ Below w.heap.size w wr) (fun i _ => len1 - (intOf i).toNat)
  case atStart => exact ⟨0, 0, 0, by omega, by omega, rfl, ⟨by simp, by simp, m0, m1, by simp, by simp⟩, x0h.out, xKh.out, xBh.out⟩
  case round =>
    obtain ⟨k, now, calm, hk, hk2, rfl, hok, r0, rK, hB⟩ := hrel
    clear x0h xKh xBh
    have rl := blk_lt r0
    by_cases hlt : k < len1
    · by_cases hlt2 : k < 200
      · obtain ⟨bb, off, rfl, c0', c1'⟩ := hgh.out k hlt
        have hbb : bb < w.heap.size := cell_block_lt c0'
        have c0 := (hB.cell (p := ⟨bb, off + k * 2, none⟩) hbb).trans c0'
        have c1 := (hB.cell (p := ⟨bb, off + k * 2 + 1, none⟩) hbb).trans c1'
        have c0h := Lib.hid c0'
        have c1h := Lib.hid c1'
        clear c0' c1'
        have i1 : (k : Int) < (len1 : Int) := by omega
        generalize (g k).1 = kd at *
        generalize (g k).2 = ls at *
        have htb := tgZ_bd kd ls a0
        have t0 : 0 ≤ tgZ kd ls a0 := htb.1
        have t1 : tgZ kd ls a0 ≤ 16 := by have := htb.2; omega
        have hok2 := ctNext_ok ⟨now, a0, calm⟩ (tgZ kd ls a0) hok htb.1 htb.2
        have hrn := Lib.hid (fun X => r_next ⟨now, a0, calm⟩ kd ls X hok t0 t1)
        have hsn := Lib.hid (fun X hX => s_next p ⟨now, a0, calm⟩ kd ls X hX hok t0 t1)
        have hmo := ctNext_most ⟨now, a0, calm⟩ (tgZ kd ls a0)
        simp only at hmo hrn hsn
        generalize ctNext ⟨now, a0, calm⟩ (tgZ kd ls a0) = s2 at *
        obtain ⟨now2, mo, calm2⟩ := s2
        simp only at hmo
        subst hmo
        clear htb t0 t1
        go_upto_region 12 with (fail)
        go_still_tail 11, (by kernel_rfl)
        have hBs := hB.size
        have l0 := blk_lt rK
        change wpList _ _ _ _ _ wr.drew
        go_wp2_with fail
        refine (hrn.out _).mono ?_
        rintro e w3 ⟨rfl, hb3⟩
        have y0 := (blk_below hb3 (by exact rl)).trans ((blk_drew_at _ _).trans r0)
        have yK := (blk_below hb3 (by exact l0)).trans ((blk_drew_at _ _).trans rK)
        have yB := (below_drewN hB 1).trans (hb3.mono (by exact hBs))
        have cw0 := c0h.out
        have cw1 := c1h.out
        clear hb3 r0 rK hB c0 c1 c0h c1h
        rw [ctA_eq]
        go_upto_region 13 with (fail)
        have z0 : blk (w3.setRow q #[.int .i64 now2, .int .i64 mo, .int .i64 calm2]) q = some (.cells #[.int .i64 now2, .int .i64 mo, .int .i64 calm2] 31 (0, 0)) := by rw [blk_setRow_if, if_pos rfl, y0, rowPut_some]
        have zK : blk (w3.setRow q #[.int .i64 now2, .int .i64 mo, .int .i64 calm2]) p = some (.cells (ctA ⟨now, mo, calm⟩) 36 (0, 0)) := by rw [blk_setRow_if, if_neg (by omega), yK]
        have zB : Below w.heap.size w (w3.setRow q #[.int .i64 now2, .int .i64 mo, .int .i64 calm2]) := below_setRow yB hq _
        generalize World.setRow _ _ _ = V at z0 zK zB ⊢
        clear y0 yK yB
        have hin : ∀ x : World, Below w.heap.size w x → blk x q = some (.cells #[.int .i64 now2, .int .i64 mo, .int .i64 calm2] 31 (0, 0)) → (x.cell? ⟨bb, off + k * 2, none⟩ = some (.int .i64 kd) ∧ x.cell? ⟨bb, off + k * 2 + 1, none⟩ = some (.int .i64 ls)) ∧ x.cell? ⟨q, 0, none⟩ = some (.int .i64 now2) ∧ x.cell? ⟨q, 2, none⟩ = some (.int .i64 calm2) := by
          intro x hb hx
          have hx := blk_heap hx
          exact ⟨⟨(hb.cell (p := ⟨bb, off + k * 2, none⟩) hbb).trans cw0, (hb.cell (p := ⟨bb, off + k * 2 + 1, none⟩) hbb).trans cw1⟩, by rw [cell_of_block hx]; rfl, by rw [cell_of_block hx]; rfl⟩
        have hinh := Lib.hid hin
        have zKh := Lib.hid zK
        have zBh := Lib.hid zB
        have z0h := Lib.hid z0
        have hVl := blk_lt zK
        have hVq := blk_lt z0
        clear hin zK zB z0 cw0 cw1 hrn
        refine h_begin 41 (fun x => (x.cell? ⟨bb, off + k * 2, none⟩ = some (.int .i64 kd) ∧ x.cell? ⟨bb, off + k * 2 + 1, none⟩ = some (.int .i64 ls)) ∧ x.cell? ⟨q, 0, none⟩ = some (.int .i64 now2) ∧ x.cell? ⟨q, 2, none⟩ = some (.int .i64 calm2)) rfl (by kernel_rfl) (hinh.out _ (below_drewN zBh.out 1) ((blk_drew_at _ _).trans z0h.out)) ?_
        have hHeld : (fun x : World => (x.cell? ⟨bb, off + k * 2, none⟩ = some (.int .i64 kd) ∧ x.cell? ⟨bb, off + k * 2 + 1, none⟩ = some (.int .i64 ls)) ∧ x.cell? ⟨q, 0, none⟩ = some (.int .i64 now2) ∧ x.cell? ⟨q, 2, none⟩ = some (.int .i64 calm2)) V.drew := hinh.out _ (below_drewN zBh.out 1) ((blk_drew_at _ _).trans z0h.out)
        first
          | (refine h_run (i := 0) (v := ?_) hHeld rfl (by kernel_rfl) (by kernel_rfl) (by kernel_rfl) ?_ ?_ ?_
             rotate_left
             · rfl
             · (intro x hSx; (try dsimp only at hSx); go_simp <;> with_reducible rfl)
             simp only [Act.put, List.setIfInBounds_toArray, List.set_cons_zero, List.set_cons_succ])
          | (refine h_skip (i := 0) hHeld rfl (by kernel_rfl) (by kernel_rfl) (by kernel_rfl) ?_ ?_
             · rfl
             simp only [Act.put, List.setIfInBounds_toArray, List.set_cons_zero, List.set_cons_succ])
        first
          | (refine h_run (i := 1) (v := ?_) hHeld rfl (by kernel_rfl) (by kernel_rfl) (by kernel_rfl) ?_ ?_ ?_
             rotate_left
             · rfl
             · (intro x hSx; (try dsimp only at hSx); go_simp <;> with_reducible rfl)
             simp only [Act.put, List.setIfInBounds_toArray, List.set_cons_zero, List.set_cons_succ])
          | (refine h_skip (i := 1) hHeld rfl (by kernel_rfl) (by kernel_rfl) (by kernel_rfl) ?_ ?_
             · rfl
             simp only [Act.put, List.setIfInBounds_toArray, List.set_cons_zero, List.set_cons_succ])
        first
          | (refine h_run (i := 2) (v := ?_) hHeld rfl (by kernel_rfl) (by kernel_rfl) (by kernel_rfl) ?_ ?_ ?_
             rotate_left
             · rfl
             · (intro x hSx; (try dsimp only at hSx); go_simp <;> with_reducible rfl)
             simp only [Act.put, List.setIfInBounds_toArray, List.set_cons_zero, List.set_cons_succ])
          | (refine h_skip (i := 2) hHeld rfl (by kernel_rfl) (by kernel_rfl) (by kernel_rfl) ?_ ?_
             · rfl
             simp only [Act.put, List.setIfInBounds_toArray, List.set_cons_zero, List.set_cons_succ])
        first
          | (refine h_run (i := 3) (v := ?_) hHeld rfl (by kernel_rfl) (by kernel_rfl) (by kernel_rfl) ?_ ?_ ?_
             rotate_left
             · rfl
             · (intro x hSx; (try dsimp only at hSx); go_simp <;> with_reducible rfl)
             simp only [Act.put, List.setIfInBounds_toArray, List.set_cons_zero, List.set_cons_succ])
          | (refine h_skip (i := 3) hHeld rfl (by kernel_rfl) (by kernel_rfl) (by kernel_rfl) ?_ ?_
             · rfl
             simp only [Act.put, List.setIfInBounds_toArray, List.set_cons_zero, List.set_cons_succ])
        first
          | (refine h_run (i := 4) (v := ?_) hHeld rfl (by kernel_rfl) (by kernel_rfl) (by kernel_rfl) ?_ ?_ ?_
             rotate_left
             · rfl
             · (intro x hSx; (try dsimp only at hSx); go_simp <;> with_reducible rfl)
             simp only [Act.put, List.setIfInBounds_toArray, List.set_cons_zero, List.set_cons_succ])
          | (refine h_skip (i := 4) hHeld rfl (by kernel_rfl) (by kernel_rfl) (by kernel_rfl) ?_ ?_
             · rfl
             simp only [Act.put, List.setIfInBounds_toArray, List.set_cons_zero, List.set_cons_succ])
        first
          | (refine h_run (i := 5) (v := ?_) hHeld rfl (by kernel_rfl) (by kernel_rfl) (by kernel_rfl) ?_ ?_ ?_
             rotate_left
             · rfl
             · (intro x hSx; (try dsimp only at hSx); go_simp <;> with_reducible rfl)
             simp only [Act.put, List.setIfInBounds_toArray, List.set_cons_zero, List.set_cons_succ])
          | (refine h_skip (i := 5) hHeld rfl (by kernel_rfl) (by kernel_rfl) (by kernel_rfl) ?_ ?_
             · rfl
             simp only [Act.put, List.setIfInBounds_toArray, List.set_cons_zero, List.set_cons_succ])
        first
          | (refine h_run (i := 6) (v := ?_) hHeld rfl (by kernel_rfl) (by kernel_rfl) (by kernel_rfl) ?_ ?_ ?_
             rotate_left
             · rfl
             · (intro x hSx; (try dsimp only at hSx); go_simp <;> with_reducible rfl)
             simp only [Act.put, List.setIfInBounds_toArray, List.set_cons_zero, List.set_cons_succ])
          | (refine h_skip (i := 6) hHeld rfl (by kernel_rfl) (by kernel_rfl) (by kernel_rfl) ?_ ?_
             · rfl
             simp only [Act.put, List.setIfInBounds_toArray, List.set_cons_zero, List.set_cons_succ])
        first
          | (refine h_run (i := 7) (v := ?_) hHeld rfl (by kernel_rfl) (by kernel_rfl) (by kernel_rfl) ?_ ?_ ?_
             rotate_left
             · rfl
             · (intro x hSx; (try dsimp only at hSx); go_simp <;> with_reducible rfl)
             simp only [Act.put, List.setIfInBounds_toArray, List.set_cons_zero, List.set_cons_succ])
          | (refine h_skip (i := 7) hHeld rfl (by kernel_rfl) (by kernel_rfl) (by kernel_rfl) ?_ ?_
             · rfl
             simp only [Act.put, List.setIfInBounds_toArray, List.set_cons_zero, List.set_cons_succ])
        first
          | (refine h_run (i := 8) (v := ?_) hHeld rfl (by kernel_rfl) (by kernel_rfl) (by kernel_rfl) ?_ ?_ ?_
             rotate_left
             · rfl
             · (intro x hSx; (try dsimp only at hSx); go_simp <;> with_reducible rfl)
             simp only [Act.put, List.setIfInBounds_toArray, List.set_cons_zero, List.set_cons_succ])
          | (refine h_skip (i := 8) hHeld rfl (by kernel_rfl) (by kernel_rfl) (by kernel_rfl) ?_ ?_
             · rfl
             simp only [Act.put, List.setIfInBounds_toArray, List.set_cons_zero, List.set_cons_succ])
        first
          | (refine h_run (i := 9) (v := ?_) hHeld rfl (by kernel_rfl) (by kernel_rfl) (by kernel_rfl) ?_ ?_ ?_
             rotate_left
             · rfl
             · (intro x hSx; (try dsimp only at hSx); go_simp <;> with_reducible rfl)
             simp only [Act.put, List.setIfInBounds_toArray, List.set_cons_zero, List.set_cons_succ])
          | (refine h_skip (i := 9) hHeld rfl (by kernel_rfl) (by kernel_rfl) (by kernel_rfl) ?_ ?_
             · rfl
             simp only [Act.put, List.setIfInBounds_toArray, List.set_cons_zero, List.set_cons_succ])
        first
          | (refine h_run (i := 10) (v := ?_) hHeld rfl (by kernel_rfl) (by kernel_rfl) (by kernel_rfl) ?_ ?_ ?_
             rotate_left
             · rfl
             · (intro x hSx; (try dsimp only at hSx); go_simp <;> with_reducible rfl)
             simp only [Act.put, List.setIfInBounds_toArray, List.set_cons_zero, List.set_cons_succ])
          | (refine h_skip (i := 10) hHeld rfl (by kernel_rfl) (by kernel_rfl) (by kernel_rfl) ?_ ?_
             · rfl
             simp only [Act.put, List.setIfInBounds_toArray, List.set_cons_zero, List.set_cons_succ])
        first
          | (refine h_run (i := 12) (v := ?_) hHeld rfl (by kernel_rfl) (by kernel_rfl) (by kernel_rfl) ?_ ?_ ?_
             rotate_left
             · rfl
             · (intro x hSx; (try dsimp only at hSx); go_simp <;> with_reducible rfl)
             simp only [Act.put, List.setIfInBounds_toArray, List.set_cons_zero, List.set_cons_succ])
          | (refine h_skip (i := 12) hHeld rfl (by kernel_rfl) (by kernel_rfl) (by kernel_rfl) ?_ ?_
             · rfl
             simp only [Act.put, List.setIfInBounds_toArray, List.set_cons_zero, List.set_cons_succ])
        first
          | (refine h_run (i := 13) (v := ?_) hHeld rfl (by kernel_rfl) (by kernel_rfl) (by kernel_rfl) ?_ ?_ ?_
             rotate_left
             · rfl
             · (intro x hSx; (try dsimp only at hSx); go_simp <;> with_reducible rfl)
             simp only [Act.put, List.setIfInBounds_toArray, List.set_cons_zero, List.set_cons_succ])
          | (refine h_skip (i := 13) hHeld rfl (by kernel_rfl) (by kernel_rfl) (by kernel_rfl) ?_ ?_
             · rfl
             simp only [Act.put, List.setIfInBounds_toArray, List.set_cons_zero, List.set_cons_succ])
        clear hHeld
        refine h_call (i := 11) (fun x => ((x.cell? ⟨bb, off + k * 2, none⟩ = some (.int .i64 kd) ∧ x.cell? ⟨bb, off + k * 2 + 1, none⟩ = some (.int .i64 ls)) ∧ x.cell? ⟨q, 0, none⟩ = some (.int .i64 now2) ∧ x.cell? ⟨q, 2, none⟩ = some (.int .i64 calm2)) ∧ x.cell? ⟨p, 0, none⟩ = some (.int .i64 now2) ∧ x.cell? ⟨p, 1, none⟩ = some (.int .i64 mo) ∧ x.cell? ⟨p, 2, none⟩ = some (.int .i64 calm2)) (fun x h => h.1) (hsn.out V.drew (blk_heap ((blk_drew_at _ _).trans zKh.out))) rfl (by kernel_rfl) rfl ?_ ?_
        · go_simp <;> with_reducible rfl
        rintro e w4 ⟨rfl, hC4, hg4⟩
        have y0 : blk w4 q = some (.cells #[.int .i64 now2, .int .i64 mo, .int .i64 calm2] 31 (0, 0)) := blk_of ((only_blk hg4 (show q < V.drew.heap.size from hVq) (by omega)).trans (blk_heap ((blk_drew_at _ _).trans z0h.out)))
        have yB : Below w.heap.size w w4 := below_of_only (below_drewN zBh.out 1) hg4 zBh.out.size (by omega)
        have hHeld : (fun x : World => ((x.cell? ⟨bb, off + k * 2, none⟩ = some (.int .i64 kd) ∧ x.cell? ⟨bb, off + k * 2 + 1, none⟩ = some (.int .i64 ls)) ∧ x.cell? ⟨q, 0, none⟩ = some (.int .i64 now2) ∧ x.cell? ⟨q, 2, none⟩ = some (.int .i64 calm2)) ∧ x.cell? ⟨p, 0, none⟩ = some (.int .i64 now2) ∧ x.cell? ⟨p, 1, none⟩ = some (.int .i64 mo) ∧ x.cell? ⟨p, 2, none⟩ = some (.int .i64 calm2)) w4 := ⟨hinh.out _ yB y0, hC4.c0, hC4.c1, hC4.c2⟩
        have y0h := Lib.hid y0
        have yBh := Lib.hid yB
        have yCh := Lib.hid (blk_of hC4)
        clear y0 yB hC4 hg4 zBh zKh z0h hsn
        refine ⟨_, rfl, hHeld, ?_⟩
        simp only [Act.put, List.setIfInBounds_toArray, List.set_cons_zero, List.set_cons_succ]
        first
          | (refine h_run (i := 14) (v := ?_) hHeld rfl (by kernel_rfl) (by kernel_rfl) (by kernel_rfl) ?_ ?_ ?_
             rotate_left
             · rfl
             · (intro x hSx; (try dsimp only at hSx); go_simp <;> with_reducible rfl)
             simp only [Act.put, List.setIfInBounds_toArray, List.set_cons_zero, List.set_cons_succ])
          | (refine h_skip (i := 14) hHeld rfl (by kernel_rfl) (by kernel_rfl) (by kernel_rfl) ?_ ?_
             · rfl
             simp only [Act.put, List.setIfInBounds_toArray, List.set_cons_zero, List.set_cons_succ])
        first
          | (refine h_run (i := 15) (v := ?_) hHeld rfl (by kernel_rfl) (by kernel_rfl) (by kernel_rfl) ?_ ?_ ?_
             rotate_left
             · rfl
             · (intro x hSx; (try dsimp only at hSx); go_simp <;> with_reducible rfl)
             simp only [Act.put, List.setIfInBounds_toArray, List.set_cons_zero, List.set_cons_succ])
          | (refine h_skip (i := 15) hHeld rfl (by kernel_rfl) (by kernel_rfl) (by kernel_rfl) ?_ ?_
             · rfl
             simp only [Act.put, List.setIfInBounds_toArray, List.set_cons_zero, List.set_cons_succ])
        first
          | (refine h_run (i := 16) (v := ?_) hHeld rfl (by kernel_rfl) (by kernel_rfl) (by kernel_rfl) ?_ ?_ ?_
             rotate_left
             · rfl
             · (intro x hSx; (try dsimp only at hSx); go_simp <;> with_reducible rfl)
             simp only [Act.put, List.setIfInBounds_toArray, List.set_cons_zero, List.set_cons_succ])
          | (refine h_skip (i := 16) hHeld rfl (by kernel_rfl) (by kernel_rfl) (by kernel_rfl) ?_ ?_
             · rfl
             simp only [Act.put, List.setIfInBounds_toArray, List.set_cons_zero, List.set_cons_succ])
        first
          | (refine h_run (i := 17) (v := ?_) hHeld rfl (by kernel_rfl) (by kernel_rfl) (by kernel_rfl) ?_ ?_ ?_
             rotate_left
             · rfl
             · (intro x hSx; (try dsimp only at hSx); go_simp <;> with_reducible rfl)
             simp only [Act.put, List.setIfInBounds_toArray, List.set_cons_zero, List.set_cons_succ])
          | (refine h_skip (i := 17) hHeld rfl (by kernel_rfl) (by kernel_rfl) (by kernel_rfl) ?_ ?_
             · rfl
             simp only [Act.put, List.setIfInBounds_toArray, List.set_cons_zero, List.set_cons_succ])
        first
          | (refine h_run (i := 18) (v := ?_) hHeld rfl (by kernel_rfl) (by kernel_rfl) (by kernel_rfl) ?_ ?_ ?_
             rotate_left
             · rfl
             · (intro x hSx; (try dsimp only at hSx); go_simp <;> with_reducible rfl)
             simp only [Act.put, List.setIfInBounds_toArray, List.set_cons_zero, List.set_cons_succ])
          | (refine h_skip (i := 18) hHeld rfl (by kernel_rfl) (by kernel_rfl) (by kernel_rfl) ?_ ?_
             · rfl
             simp only [Act.put, List.setIfInBounds_toArray, List.set_cons_zero, List.set_cons_succ])
        first
          | (refine h_run (i := 19) (v := ?_) hHeld rfl (by kernel_rfl) (by kernel_rfl) (by kernel_rfl) ?_ ?_ ?_
             rotate_left
             · rfl
             · (intro x hSx; (try dsimp only at hSx); go_simp <;> with_reducible rfl)
             simp only [Act.put, List.setIfInBounds_toArray, List.set_cons_zero, List.set_cons_succ])
          | (refine h_skip (i := 19) hHeld rfl (by kernel_rfl) (by kernel_rfl) (by kernel_rfl) ?_ ?_
             · rfl
             simp only [Act.put, List.setIfInBounds_toArray, List.set_cons_zero, List.set_cons_succ])
        first
          | (refine h_run (i := 20) (v := ?_) hHeld rfl (by kernel_rfl) (by kernel_rfl) (by kernel_rfl) ?_ ?_ ?_
             rotate_left
             · rfl
             · (intro x hSx; (try dsimp only at hSx); go_simp <;> with_reducible rfl)
             simp only [Act.put, List.setIfInBounds_toArray, List.set_cons_zero, List.set_cons_succ])
          | (refine h_skip (i := 20) hHeld rfl (by kernel_rfl) (by kernel_rfl) (by kernel_rfl) ?_ ?_
             · rfl
             simp only [Act.put, List.setIfInBounds_toArray, List.set_cons_zero, List.set_cons_succ])
        first
          | (refine h_run (i := 21) (v := ?_) hHeld rfl (by kernel_rfl) (by kernel_rfl) (by kernel_rfl) ?_ ?_ ?_
             rotate_left
             · rfl
             · (intro x hSx; (try dsimp only at hSx); go_simp <;> with_reducible rfl)
             simp only [Act.put, List.setIfInBounds_toArray, List.set_cons_zero, List.set_cons_succ])
          | (refine h_skip (i := 21) hHeld rfl (by kernel_rfl) (by kernel_rfl) (by kernel_rfl) ?_ ?_
             · rfl
             simp only [Act.put, List.setIfInBounds_toArray, List.set_cons_zero, List.set_cons_succ])
        first
          | (refine h_run (i := 22) (v := ?_) hHeld rfl (by kernel_rfl) (by kernel_rfl) (by kernel_rfl) ?_ ?_ ?_
             rotate_left
             · rfl
             · (intro x hSx; (try dsimp only at hSx); go_simp <;> with_reducible rfl)
             simp only [Act.put, List.setIfInBounds_toArray, List.set_cons_zero, List.set_cons_succ])
          | (refine h_skip (i := 22) hHeld rfl (by kernel_rfl) (by kernel_rfl) (by kernel_rfl) ?_ ?_
             · rfl
             simp only [Act.put, List.setIfInBounds_toArray, List.set_cons_zero, List.set_cons_succ])
        first
          | (refine h_run (i := 23) (v := ?_) hHeld rfl (by kernel_rfl) (by kernel_rfl) (by kernel_rfl) ?_ ?_ ?_
             rotate_left
             · rfl
             · (intro x hSx; (try dsimp only at hSx); go_simp <;> with_reducible rfl)
             simp only [Act.put, List.setIfInBounds_toArray, List.set_cons_zero, List.set_cons_succ])
          | (refine h_skip (i := 23) hHeld rfl (by kernel_rfl) (by kernel_rfl) (by kernel_rfl) ?_ ?_
             · rfl
             simp only [Act.put, List.setIfInBounds_toArray, List.set_cons_zero, List.set_cons_succ])
        first
          | (refine h_run (i := 24) (v := ?_) hHeld rfl (by kernel_rfl) (by kernel_rfl) (by kernel_rfl) ?_ ?_ ?_
             rotate_left
             · rfl
             · (intro x hSx; (try dsimp only at hSx); go_simp <;> with_reducible rfl)
             simp only [Act.put, List.setIfInBounds_toArray, List.set_cons_zero, List.set_cons_succ])
          | (refine h_skip (i := 24) hHeld rfl (by kernel_rfl) (by kernel_rfl) (by kernel_rfl) ?_ ?_
             · rfl
             simp only [Act.put, List.setIfInBounds_toArray, List.set_cons_zero, List.set_cons_succ])
        first
          | (refine h_run (i := 25) (v := ?_) hHeld rfl (by kernel_rfl) (by kernel_rfl) (by kernel_rfl) ?_ ?_ ?_
             rotate_left
             · rfl
             · (intro x hSx; (try dsimp only at hSx); go_simp <;> with_reducible rfl)
             simp only [Act.put, List.setIfInBounds_toArray, List.set_cons_zero, List.set_cons_succ])
          | (refine h_skip (i := 25) hHeld rfl (by kernel_rfl) (by kernel_rfl) (by kernel_rfl) ?_ ?_
             · rfl
             simp only [Act.put, List.setIfInBounds_toArray, List.set_cons_zero, List.set_cons_succ])
        first
          | (refine h_run (i := 26) (v := ?_) hHeld rfl (by kernel_rfl) (by kernel_rfl) (by kernel_rfl) ?_ ?_ ?_
             rotate_left
             · rfl
             · (intro x hSx; (try dsimp only at hSx); go_simp <;> with_reducible rfl)
             simp only [Act.put, List.setIfInBounds_toArray, List.set_cons_zero, List.set_cons_succ])
          | (refine h_skip (i := 26) hHeld rfl (by kernel_rfl) (by kernel_rfl) (by kernel_rfl) ?_ ?_
             · rfl
             simp only [Act.put, List.setIfInBounds_toArray, List.set_cons_zero, List.set_cons_succ])
        first
          | (refine h_run (i := 27) (v := ?_) hHeld rfl (by kernel_rfl) (by kernel_rfl) (by kernel_rfl) ?_ ?_ ?_
             rotate_left
             · rfl
             · (intro x hSx; (try dsimp only at hSx); go_simp <;> with_reducible rfl)
             simp only [Act.put, List.setIfInBounds_toArray, List.set_cons_zero, List.set_cons_succ])
          | (refine h_skip (i := 27) hHeld rfl (by kernel_rfl) (by kernel_rfl) (by kernel_rfl) ?_ ?_
             · rfl
             simp only [Act.put, List.setIfInBounds_toArray, List.set_cons_zero, List.set_cons_succ])
        first
          | (refine h_run (i := 28) (v := ?_) hHeld rfl (by kernel_rfl) (by kernel_rfl) (by kernel_rfl) ?_ ?_ ?_
             rotate_left
             · rfl
             · (intro x hSx; (try dsimp only at hSx); go_simp <;> with_reducible rfl)
             simp only [Act.put, List.setIfInBounds_toArray, List.set_cons_zero, List.set_cons_succ])
          | (refine h_skip (i := 28) hHeld rfl (by kernel_rfl) (by kernel_rfl) (by kernel_rfl) ?_ ?_
             · rfl
             simp only [Act.put, List.setIfInBounds_toArray, List.set_cons_zero, List.set_cons_succ])
        first
          | (refine h_run (i := 29) (v := ?_) hHeld rfl (by kernel_rfl) (by kernel_rfl) (by kernel_rfl) ?_ ?_ ?_
             rotate_left
             · rfl
             · (intro x hSx; (try dsimp only at hSx); go_simp <;> with_reducible rfl)
             simp only [Act.put, List.setIfInBounds_toArray, List.set_cons_zero, List.set_cons_succ])
          | (refine h_skip (i := 29) hHeld rfl (by kernel_rfl) (by kernel_rfl) (by kernel_rfl) ?_ ?_
             · rfl
             simp only [Act.put, List.setIfInBounds_toArray, List.set_cons_zero, List.set_cons_succ])
        first
          | (refine h_run (i := 30) (v := ?_) hHeld rfl (by kernel_rfl) (by kernel_rfl) (by kernel_rfl) ?_ ?_ ?_
             rotate_left
             · rfl
             · (intro x hSx; (try dsimp only at hSx); go_simp <;> with_reducible rfl)
             simp only [Act.put, List.setIfInBounds_toArray, List.set_cons_zero, List.set_cons_succ])
          | (refine h_skip (i := 30) hHeld rfl (by kernel_rfl) (by kernel_rfl) (by kernel_rfl) ?_ ?_
             · rfl
             simp only [Act.put, List.setIfInBounds_toArray, List.set_cons_zero, List.set_cons_succ])
        first
          | (refine h_run (i := 31) (v := ?_) hHeld rfl (by kernel_rfl) (by kernel_rfl) (by kernel_rfl) ?_ ?_ ?_
             rotate_left
             · rfl
             · (intro x hSx; (try dsimp only at hSx); go_simp <;> with_reducible rfl)
             simp only [Act.put, List.setIfInBounds_toArray, List.set_cons_zero, List.set_cons_succ])
          | (refine h_skip (i := 31) hHeld rfl (by kernel_rfl) (by kernel_rfl) (by kernel_rfl) ?_ ?_
             · rfl
             simp only [Act.put, List.setIfInBounds_toArray, List.set_cons_zero, List.set_cons_succ])
        first
          | (refine h_run (i := 32) (v := ?_) hHeld rfl (by kernel_rfl) (by kernel_rfl) (by kernel_rfl) ?_ ?_ ?_
             rotate_left
             · rfl
             · (intro x hSx; (try dsimp only at hSx); go_simp <;> with_reducible rfl)
             simp only [Act.put, List.setIfInBounds_toArray, List.set_cons_zero, List.set_cons_succ])
          | (refine h_skip (i := 32) hHeld rfl (by kernel_rfl) (by kernel_rfl) (by kernel_rfl) ?_ ?_
             · rfl
             simp only [Act.put, List.setIfInBounds_toArray, List.set_cons_zero, List.set_cons_succ])
        first
          | (refine h_run (i := 33) (v := ?_) hHeld rfl (by kernel_rfl) (by kernel_rfl) (by kernel_rfl) ?_ ?_ ?_
             rotate_left
             · rfl
             · (intro x hSx; (try dsimp only at hSx); go_simp <;> with_reducible rfl)
             simp only [Act.put, List.setIfInBounds_toArray, List.set_cons_zero, List.set_cons_succ])
          | (refine h_skip (i := 33) hHeld rfl (by kernel_rfl) (by kernel_rfl) (by kernel_rfl) ?_ ?_
             · rfl
             simp only [Act.put, List.setIfInBounds_toArray, List.set_cons_zero, List.set_cons_succ])
        first
          | (refine h_run (i := 34) (v := ?_) hHeld rfl (by kernel_rfl) (by kernel_rfl) (by kernel_rfl) ?_ ?_ ?_
             rotate_left
             · rfl
             · (intro x hSx; (try dsimp only at hSx); go_simp <;> with_reducible rfl)
             simp only [Act.put, List.setIfInBounds_toArray, List.set_cons_zero, List.set_cons_succ])
          | (refine h_skip (i := 34) hHeld rfl (by kernel_rfl) (by kernel_rfl) (by kernel_rfl) ?_ ?_
             · rfl
             simp only [Act.put, List.setIfInBounds_toArray, List.set_cons_zero, List.set_cons_succ])
        first
          | (refine h_run (i := 35) (v := ?_) hHeld rfl (by kernel_rfl) (by kernel_rfl) (by kernel_rfl) ?_ ?_ ?_
             rotate_left
             · rfl
             · (intro x hSx; (try dsimp only at hSx); go_simp <;> with_reducible rfl)
             simp only [Act.put, List.setIfInBounds_toArray, List.set_cons_zero, List.set_cons_succ])
          | (refine h_skip (i := 35) hHeld rfl (by kernel_rfl) (by kernel_rfl) (by kernel_rfl) ?_ ?_
             · rfl
             simp only [Act.put, List.setIfInBounds_toArray, List.set_cons_zero, List.set_cons_succ])
        first
          | (refine h_run (i := 36) (v := ?_) hHeld rfl (by kernel_rfl) (by kernel_rfl) (by kernel_rfl) ?_ ?_ ?_
             rotate_left
             · rfl
             · (intro x hSx; (try dsimp only at hSx); go_simp <;> with_reducible rfl)
             simp only [Act.put, List.setIfInBounds_toArray, List.set_cons_zero, List.set_cons_succ])
          | (refine h_skip (i := 36) hHeld rfl (by kernel_rfl) (by kernel_rfl) (by kernel_rfl) ?_ ?_
             · rfl
             simp only [Act.put, List.setIfInBounds_toArray, List.set_cons_zero, List.set_cons_succ])
        first
          | (refine h_run (i := 37) (v := ?_) hHeld rfl (by kernel_rfl) (by kernel_rfl) (by kernel_rfl) ?_ ?_ ?_
             rotate_left
             · rfl
             · (intro x hSx; (try dsimp only at hSx); go_simp <;> with_reducible rfl)
             simp only [Act.put, List.setIfInBounds_toArray, List.set_cons_zero, List.set_cons_succ])
          | (refine h_skip (i := 37) hHeld rfl (by kernel_rfl) (by kernel_rfl) (by kernel_rfl) ?_ ?_
             · rfl
             simp only [Act.put, List.setIfInBounds_toArray, List.set_cons_zero, List.set_cons_succ])
        first
          | (refine h_run (i := 38) (v := ?_) hHeld rfl (by kernel_rfl) (by kernel_rfl) (by kernel_rfl) ?_ ?_ ?_
             rotate_left
             · rfl
             · (intro x hSx; (try dsimp only at hSx); go_simp <;> with_reducible rfl)
             simp only [Act.put, List.setIfInBounds_toArray, List.set_cons_zero, List.set_cons_succ])
          | (refine h_skip (i := 38) hHeld rfl (by kernel_rfl) (by kernel_rfl) (by kernel_rfl) ?_ ?_
             · rfl
             simp only [Act.put, List.setIfInBounds_toArray, List.set_cons_zero, List.set_cons_succ])
        first
          | (refine h_run (i := 39) (v := ?_) hHeld rfl (by kernel_rfl) (by kernel_rfl) (by kernel_rfl) ?_ ?_ ?_
             rotate_left
             · rfl
             · (intro x hSx; (try dsimp only at hSx); go_simp <;> with_reducible rfl)
             simp only [Act.put, List.setIfInBounds_toArray, List.set_cons_zero, List.set_cons_succ])
          | (refine h_skip (i := 39) hHeld rfl (by kernel_rfl) (by kernel_rfl) (by kernel_rfl) ?_ ?_
             · rfl
             simp only [Act.put, List.setIfInBounds_toArray, List.set_cons_zero, List.set_cons_succ])
        first
          | (refine h_run (i := 40) (v := ?_) hHeld rfl (by kernel_rfl) (by kernel_rfl) (by kernel_rfl) ?_ ?_ ?_
             rotate_left
             · rfl
             · (intro x hSx; (try dsimp only at hSx); go_simp <;> with_reducible rfl)
             simp only [Act.put, List.setIfInBounds_toArray, List.set_cons_zero, List.set_cons_succ])
          | (refine h_skip (i := 40) hHeld rfl (by kernel_rfl) (by kernel_rfl) (by kernel_rfl) ?_ ?_
             · rfl
             simp only [Act.put, List.setIfInBounds_toArray, List.set_cons_zero, List.set_cons_succ])
        refine h_done (by kernel_rfl) ?_
        clear hHeld hinh
        go_wp2_with fail
        go_roundw
        case rel => exact ⟨k + 1, now2, calm2, by omega, by omega, by go_num, hok2, y0h.out, yCh.out, yBh.out⟩
        case measure => simp [intOf]; omega
      · have hd2 : decide ((k : Int) < 200) = false := decide_eq_false (by omega)
        go_wp2_with fail
        go_ret
        exact ⟨rfl, hB⟩
    · have hd1 : decide ((k : Int) < (len1 : Int)) = false := decide_eq_false (by omega)
      go_wp2_with fail
      go_ret
      exact ⟨rfl, hB⟩
end Go.Proofs.Ytpeloeiiaikadaa

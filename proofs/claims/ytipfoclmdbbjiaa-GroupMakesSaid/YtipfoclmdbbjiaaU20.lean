import Derived.Test.YtipfoclmdbbjiaaU19
import Derived.Test.YtipfoclmdbbjiaaU06
import Derived.Test.YtipfoclmdbbjiaaU04
import Derived.ArgAppend
/- The document's Make of a group. Conditions: what the inputs read as. -/
namespace Go.Proofs.Ytipfoclmdbbjiaa
open Go.RowKit
attribute [local irreducible] gexp gtbl glog rmul rinv rpow zexp mixF blk wLoad wLoadRes loadAns wStore wStoreRes storeAns Plain flF BRow MRow MAt By IsGf ivS rsF mlF RowsAt paF OwnS SlR dtF inV grD
attribute [local go_sem ↓] ld_w0 sto_w0
attribute [local go_sem] ld_w sto_w loadAns_some storeAns_some gg_size gg_plain blk_alloc_if blk_setRow_if blk_drew_at blk_drewN_at rowPut_some blk_setCell_if cellPut_some
set_option maxRecDepth 100000 in
set_option maxHeartbeats 2000000 in
theorem r_make_no (no fi m : Int) (K : Nat) (si : Option Addr) (ci : Nat) (w : World) (h : K = 0 ∨ 16 < K ∨ m < 0 ∨ 16 < m) :
    Calls Try.prog 22 #[.int .u32 no, .int .u32 fi, .int .i64 m, .slice si K ci] w (MkNo w (.bool false)) := by
  have hz := zeroGW
  have hB := Lib.hid (below_one w (.cells #[.int .u32 0, .int .u32 0, .int .i64 0, .int .i64 0, .slice none 0 0] 44))
  have b0 := blk_of (last_block0 w (.cells #[.int .u32 0, .int .u32 0, .int .i64 0, .int .i64 0, .slice none 0 0] 44) _ rfl)
  have hfin : Hid (∀ D, MkNo w (.bool false) (.returned (.tuple #[.agg #[.int .u32 0, .int .u32 0, .int .i64 0, .int .i64 0, .slice none 0 0], .bool false])) ((w.alloc (.cells #[.int .u32 0, .int .u32 0, .int .i64 0, .int .i64 0, .slice none 0 0] 44)).setRow w.heap.size D)) := hide (fun D => ⟨rfl, below_setRow hB.out (Nat.le_refl _) D⟩)
  have b0h := Lib.hid b0
  have hh := Lib.hid h
  have d4 : (decide ((K : Int) < 1) = true) ∨ (decide ((K : Int) < 1) = false ∧ decide ((16 : Int) < (K : Int)) = true ∧ decide (16 < K) = true) ∨ (decide ((K : Int) < 1) = false ∧ decide ((16 : Int) < (K : Int)) = false ∧ decide (16 < K) = false ∧ decide (m < 0) = true) ∨ (decide ((K : Int) < 1) = false ∧ decide ((16 : Int) < (K : Int)) = false ∧ decide (16 < K) = false ∧ decide (m < 0) = false ∧ decide (16 < m) = true) := by
    simp only [decide_eq_true_eq, decide_eq_false_iff_not]
    omega
  clear h
  rcases d4 with e0 | ⟨e0, e1, e2⟩ | ⟨e0, e1, e2, e3⟩ | ⟨e0, e1, e2, e3, e4⟩ <;>
  · go_enter Try.func22, Try.ntmps22
    go_upto_region 1 with (fail)
    generalize World.alloc w _ = W at *
    go_wp2_with fail
    refine bodyPost_ret (v := .tuple #[.agg #[.int .u32 0, .int .u32 0, .int .i64 0, .int .i64 0, .slice none 0 0], .bool false]) (results_row_tmp rfl _ _ w.heap.size 44 _ (0, 0) _ _ rfl rfl (setRow_heap _ _ _ _ _ _ (blk_heap b0h.out)) Try.underlying44 rfl gw_info) rfl (hfin.out _)
set_option maxRecDepth 100000 in
set_option maxHeartbeats 8000000 in
theorem r_make (K m : Nat) (no fi : Int) (I : Nat → Nat) (si : Option Addr) (ci : Nat) (w : World) (hs : ZAt w .u16 si K (fun i => (I i : Nat))) (hI : ∀ j, I j < 65536) (h0 : 1 ≤ K) (hK : K ≤ 16) (hm : m ≤ 16) :
    Calls Try.prog 22 #[.int .u32 no, .int .u32 fi, .int .i64 (m : Nat), .slice si K ci] w (MkPost w no fi K m I (.bool true)) := by
  have hz := zeroGW
  have hsh := Lib.hid hs
  have hIh := Lib.hid hI
  have hB0 := below_one w (.cells #[.int .u32 0, .int .u32 0, .int .i64 0, .int .i64 0, .slice none 0 0] 44)
  have b0 := last_block0 w (.cells #[.int .u32 0, .int .u32 0, .int .i64 0, .int .i64 0, .slice none 0 0] 44) _ rfl
  have d0 : decide ((16 : Int) < (K : Int)) = false := decide_eq_false (by omega)
  have d1 : decide (16 < K) = false := decide_eq_false (by omega)
  have d2 : decide ((16 : Int) < (m : Int)) = false := decide_eq_false (by omega)
  have d3 : decide (16 < m) = false := decide_eq_false (by omega)
  have d4 : decide ((K : Int) < 1) = false := decide_eq_false (by omega)
  have d5 : decide ((m : Int) < 0) = false := decide_eq_false (by omega)
  have ken := Lib.hid (fun y (s : Option Addr) (cap : Nat) (h3 : RowsAt y s K 2 (inV I)) => r_encode K m 2 s cap (inV I) y h3 (inV_bd I hI) h0 (by omega) (by omega))
  have kpt := Lib.hid (fun i y => r_bytes2 (I i) y (hI i))
  have hin : Hid (∀ i, put16F (I i) = inV I i) := hide (fun i => by funext t; unfold inV; rfl)
  have hgr : Hid (catV K (inV I) (paF K (inV I)) = grD K I) := hide (by unfold grD; rfl)
  clear hs hI
  go_enter Try.func22, Try.ntmps22
  go_upto_region 1 with (fail)
  generalize World.alloc w _ = W at *
  have hwW : w.heap.size < W.heap.size := (Array.getElem?_eq_some_iff.1 b0).1
  have b0h := Lib.hid b0
  have hB0h := Lib.hid hB0
  clear b0 hB0
  go_upto_region 4 with (fail)
  obtain ⟨x0, x1, x2⟩ := boxed W #[.int .u32 0, .int .u32 0, .int .i64 0, .int .i64 0, .slice none 0 0] #[.int .u32 no, .int .u32 fi, .int .i64 (K : Nat), .int .i64 (m : Nat), .slice none 0 0] 44
  have hM0 : Hid (MkAt ((W.alloc (.cells #[.int .u32 0, .int .u32 0, .int .i64 0, .int .i64 0, .slice none 0 0] 44)).setRow W.heap.size #[.int .u32 no, .int .u32 fi, .int .i64 (K : Nat), .int .i64 (m : Nat), .slice none 0 0]) W W.heap.size 44 no fi K m (.slice none 0 0) 0 2 (inV I)) := hide ⟨x0, OwnS.nil _ _ _ _, x2, Nat.le_refl _⟩
  generalize World.setRow (World.alloc W _) _ _ = X at *
  obtain ⟨q, hq⟩ : ∃ q, W.heap.size = q := ⟨_, rfl⟩
  have hqw : w.heap.size < q := by omega
  rw [hq] at hM0 ⊢
  have hqh := Lib.hid hq
  have hbl : Hid (∀ y, Below W.heap.size W y → Below w.heap.size w y) := hide (fun y hy => hB0h.out.trans (hy.mono (by omega)))
  have hb10 : Hid (∀ y, Below W.heap.size W y → blk y w.heap.size = some (.cells #[.int .u32 0, .int .u32 0, .int .i64 0, .int .i64 0, .slice none 0 0] 44 (0, 0))) := hide (fun y hy => (blk_below hy (by omega)).trans (blk_of b0h.out))
  clear x0 x1 x2 hq
  go_upto_region 5 with (fail)
  go_loopw [11] (fun v11 wr => ∃ (i : Nat) (v : Value), i ≤ K ∧ v11 = .int .i64 (i : Nat) ∧ Hid (MkAt wr W q 44 no fi K m v i 2 (inV I))) (fun v11 _ => K - (intOf v11).toNat)
  case atStart => exact ⟨0, _, by omega, rfl, hM0⟩
  case round =>
    obtain ⟨i, v, hi, rfl, hM⟩ := hrel
    clear hM0
    by_cases hiK : i < K
    · have i1 : (i : Int) < (K : Int) := by omega
      obtain ⟨bi, oi, rfl, ci00⟩ := hsh.out i hiK
      have ci0 : w.cell? ⟨bi, oi + i, none⟩ = some (.int .u16 (I i : Nat)) := ci00
      clear ci00
      have ci : wr.cell? ⟨bi, oi + i, none⟩ = some (.int .u16 (I i : Nat)) := ((hbl.out wr hM.out.lo).cell (cell_block_lt ci0)).trans ci0
      have hx := hIh.out i
      have hkpt := Lib.hid (kpt.out i)
      rw [hin.out i] at hkpt
      obtain ⟨xi, hxi⟩ : ∃ xi, I i = xi := ⟨_, rfl⟩
      rw [hxi] at ci ci0 hx hkpt
      have ci0h := Lib.hid ci0
      have hwx : IntKind.u64.wrap (xi : Int) = (xi : Int) := by rw [IntKind.wrap_u64]; omega
      clear ci0 hxi
      go_upto_region 7 with (fail)
      have hLd : Hid (Below wr.heap.size wr wr.drew) := hide (below_drewN (Below.refl _ _) 1)
      obtain ⟨sv, cv, rfl⟩ := hM.out.own.form
      have hS : Hid (∀ y, Below W.heap.size W y → (fun y : World => y.cell? ⟨bi, oi + i, none⟩ = some (.int .u16 (xi : Nat))) y) := hide (fun y hy => ((hbl.out y hy).cell (cell_block_lt ci0h.out)).trans ci0h.out)
      have hHeld : (fun y : World => y.cell? ⟨bi, oi + i, none⟩ = some (.int .u16 (xi : Nat))) wr.drew := hS.out _ (hM.out.lo.trans (hLd.out.mono hM.out.lo.size))
      refine h_begin 12 (fun y : World => y.cell? ⟨bi, oi + i, none⟩ = some (.int .u16 (xi : Nat))) rfl (by kernel_rfl) hHeld ?_
      clear ci
      first
        | (refine h_run (i := 0) (v := ?_) hHeld rfl (by kernel_rfl) (by kernel_rfl) (by kernel_rfl) ?_ ?_ ?_
           rotate_left
           · rfl
           · (intro x hSx; (try dsimp only at hSx); go_simp <;> with_reducible rfl)
           simp only [Act.put, List.setIfInBounds_toArray, List.set_cons_zero, List.set_cons_succ])
        | (refine h_skip (i := 0) hHeld rfl (by kernel_rfl) (by kernel_rfl) (by kernel_rfl) ?_ ?_
           · rfl
           simp only [Act.put, List.setIfInBounds_toArray, List.set_cons_zero, List.set_cons_succ])
      first
        | (refine h_run (i := 2) (v := ?_) hHeld rfl (by kernel_rfl) (by kernel_rfl) (by kernel_rfl) ?_ ?_ ?_
           rotate_left
           · rfl
           · (intro x hSx; (try dsimp only at hSx); go_simp <;> with_reducible rfl)
           simp only [Act.put, List.setIfInBounds_toArray, List.set_cons_zero, List.set_cons_succ])
        | (refine h_skip (i := 2) hHeld rfl (by kernel_rfl) (by kernel_rfl) (by kernel_rfl) ?_ ?_
           · rfl
           simp only [Act.put, List.setIfInBounds_toArray, List.set_cons_zero, List.set_cons_succ])
      first
        | (refine h_run (i := 3) (v := ?_) hHeld rfl (by kernel_rfl) (by kernel_rfl) (by kernel_rfl) ?_ ?_ ?_
           rotate_left
           · rfl
           · (intro x hSx; (try dsimp only at hSx); go_simp <;> with_reducible rfl)
           simp only [Act.put, List.setIfInBounds_toArray, List.set_cons_zero, List.set_cons_succ])
        | (refine h_skip (i := 3) hHeld rfl (by kernel_rfl) (by kernel_rfl) (by kernel_rfl) ?_ ?_
           · rfl
           simp only [Act.put, List.setIfInBounds_toArray, List.set_cons_zero, List.set_cons_succ])
      first
        | (refine h_run (i := 4) (v := ?_) hHeld rfl (by kernel_rfl) (by kernel_rfl) (by kernel_rfl) ?_ ?_ ?_
           rotate_left
           · rfl
           · (intro x hSx; (try dsimp only at hSx); go_simp <;> with_reducible rfl)
           simp only [Act.put, List.setIfInBounds_toArray, List.set_cons_zero, List.set_cons_succ])
        | (refine h_skip (i := 4) hHeld rfl (by kernel_rfl) (by kernel_rfl) (by kernel_rfl) ?_ ?_
           · rfl
           simp only [Act.put, List.setIfInBounds_toArray, List.set_cons_zero, List.set_cons_succ])
      first
        | (refine h_run (i := 5) (v := ?_) hHeld rfl (by kernel_rfl) (by kernel_rfl) (by kernel_rfl) ?_ ?_ ?_
           rotate_left
           · rfl
           · (intro x hSx; (try dsimp only at hSx); go_simp <;> with_reducible rfl)
           simp only [Act.put, List.setIfInBounds_toArray, List.set_cons_zero, List.set_cons_succ])
        | (refine h_skip (i := 5) hHeld rfl (by kernel_rfl) (by kernel_rfl) (by kernel_rfl) ?_ ?_
           · rfl
           simp only [Act.put, List.setIfInBounds_toArray, List.set_cons_zero, List.set_cons_succ])
      first
        | (refine h_run (i := 6) (v := ?_) hHeld rfl (by kernel_rfl) (by kernel_rfl) (by kernel_rfl) ?_ ?_ ?_
           rotate_left
           · rfl
           · (intro x hSx; (try dsimp only at hSx); go_simp <;> with_reducible rfl)
           simp only [Act.put, List.setIfInBounds_toArray, List.set_cons_zero, List.set_cons_succ])
        | (refine h_skip (i := 6) hHeld rfl (by kernel_rfl) (by kernel_rfl) (by kernel_rfl) ?_ ?_
           · rfl
           simp only [Act.put, List.setIfInBounds_toArray, List.set_cons_zero, List.set_cons_succ])
      clear hHeld
      refine h_lcb (i := 1) (j := 7) (k := 8) (f := 35) (args := #[.int .u64 (xi : Nat), .int .i64 2]) (.slice sv i cv) (fun u => .cells #[u] 58) (fun x => Below wr.heap.size wr x) (fun u x => SlR x W.heap.size 2 (inV I i) u) [1, 7] [1, 8]
        hLd.out (fun x hx => hS.out _ (hM.out.lo.trans (hx.mono hM.out.lo.size))) (fun x u h => h.alloc h.size _) ?_ rfl rfl rfl (by kernel_rfl) (by decide) (by kernel_rfl) (by kernel_rfl) (by kernel_rfl) (by decide) (by kernel_rfl) (by kernel_rfl) (fun _ => rfl) (fun _ => rfl) (fun _ => rfl) (fun x hx => ?_) (fun x u hx => ?_) (fun x u b hx => ?_) ?_ ?_ (fun x u hx hu => ?_) (fun x u hx hu => ?_) (fun x u hx hu => ?_) rfl rfl (fun _ _ => rfl) (fun _ _ => rfl) ?_
      · refine (hkpt.out wr.drew).mono ?_
        rintro e x ⟨u, rfl, hu, hb⟩
        exact ⟨u, rfl, hLd.out.trans (hb.mono hLd.out.size), hu.base hM.out.lo.size⟩
      · have c4 := (hM.out.below hx).cell.1
        clear hx
        go_simp <;> with_reducible rfl
      · have c4 := (hM.out.below hx).cell.1
        clear hx
        go_simp <;> with_reducible rfl
      · have c4 := (hM.out.below hx).cell.1
        clear hx
        go_simp <;> with_reducible rfl
      · go_simp <;> with_reducible rfl
      · go_simp <;> with_reducible rfl
      · obtain ⟨gu, ku, rfl⟩ := hu.form
        clear hx hu
        go_simp <;> with_reducible rfl
      · obtain ⟨gu, ku, rfl⟩ := hu.form
        clear hx hu
        go_simp <;> with_reducible rfl
      · obtain ⟨gu, ku, rfl⟩ := hu.form
        clear hx hu
        go_simp <;> with_reducible rfl
      intro x u hx hu
      simp only [Act.put, List.setIfInBounds_toArray, List.set_cons_zero, List.set_cons_succ]
      have hMx := hM.out.below hx
      obtain ⟨v', w6, hr, ho6, hg6⟩ := run_snocS x _ W.heap.size i 2 (inV I) u 42 hMx.own hu (by omega) hMx.lo.size
      have hS6 := Lib.hid (hMx.step (by decide) hg6 ho6).2
      refine h_value (i := 9) (v := v') (w' := w6) (fun y : World => y.cell? ⟨bi, oi + i, none⟩ = some (.int .u16 (xi : Nat))) (fun _ h => h) rfl (by kernel_rfl) rfl ?_ (hS.out _ hS6.out) ?_
      · exact exec_appendM (.tmp 44) (.tmp 51) _ _ rfl rfl rfl hr
      simp only [Act.put, List.setIfInBounds_toArray, List.set_cons_zero, List.set_cons_succ]
      have hst := hMx.step (by decide) hg6 ho6
      have c6 : w6.cell? ⟨q, 4, none⟩ = some (.slice sv i cv) := (cell_of_block hst.1).trans rfl
      have f6 := frozen_of_row w6 q 4 _ _ hst.1
      have hP := Lib.hid (hMx.put (by decide) (by decide) hg6 ho6)
      obtain ⟨s6, cap6, rfl⟩ := ho6.form
      clear hMx hr ho6 hg6 hst hx hu
      have hHeld : (fun y : World => y.cell? ⟨bi, oi + i, none⟩ = some (.int .u16 (xi : Nat))) w6 := hS.out _ hS6.out
      first
        | (refine h_run (i := 10) (v := ?_) hHeld rfl (by kernel_rfl) (by kernel_rfl) (by kernel_rfl) ?_ ?_ ?_
           rotate_left
           · rfl
           · (intro x hSx; (try dsimp only at hSx); go_simp <;> with_reducible rfl)
           simp only [Act.put, List.setIfInBounds_toArray, List.set_cons_zero, List.set_cons_succ])
        | (refine h_skip (i := 10) hHeld rfl (by kernel_rfl) (by kernel_rfl) (by kernel_rfl) ?_ ?_
           · rfl
           simp only [Act.put, List.setIfInBounds_toArray, List.set_cons_zero, List.set_cons_succ])
      clear hHeld
      refine h_write (i := 11) (w' := w6.setCell ⟨q, 4, none⟩ (.slice s6 (i + 1) cap6)) (fun y : World => y.cell? ⟨bi, oi + i, none⟩ = some (.int .u16 (xi : Nat))) (fun _ h => h) rfl (by kernel_rfl) rfl ?_ (hS.out _ hP.out.lo) ?_
      · go_simp <;> with_reducible rfl
      refine h_done (by kernel_rfl) ?_
      clear c6 f6
      go_wp2_with fail
      go_roundw
      case rel => exact ⟨i + 1, _, by omega, by go_num, hP⟩
      case measure => simp [intOf]; omega
    · obtain rfl : i = K := by omega
      have i1 : decide ((i : Int) < (i : Int)) = false := by simp
      obtain ⟨sv, cv, rfl, hrw, _⟩ := hM.out.own.open
      have hrwh := Lib.hid hrw
      have c4 := hM.out.cell.1
      have c2 : wr.cell? ⟨q, 2, none⟩ = some (.int .i64 (i : Nat)) := (cell_of_block hM.out.b).trans rfl
      have hsz := hM.out.lo.size
      clear hrw
      go_wp2_with fail
      refine (ken.out wr sv cv hrwh.out).mono ?_
      rintro e w5 ⟨v5, rfl, ho5, hb5⟩
      have ho5h := Lib.hid (ho5.base (show W.heap.size ≤ wr.heap.size from hsz))
      have hM5 := Lib.hid (hM.out.below hb5)
      have c5 := hM5.out.cell.1
      have hs5 := hM5.out.lo.size
      clear ho5 hb5 c4 c2
      go_upto_region 10 with (at_builtin; refine wpList_catO rfl (.tmp 64) (.tmp 65) rfl (.slice sv i cv) v5 W.heap.size i 2 m (inV I) (paF i (inV I)) rfl rfl hM5.out.own ho5h.out (by omega) hs5 ?_; intro v' w6 ho6 hg6; have hst := hM5.out.step (by decide) hg6 ho6; have c6 : w6.cell? ⟨q, 4, none⟩ = some (.slice sv i cv) := (cell_of_block hst.1).trans rfl; have f6 := frozen_of_row w6 q 4 _ _ hst.1; have hP := Lib.hid (hM5.out.put (by decide) (by decide) hg6 ho6); obtain ⟨s6, cap6, rfl⟩ := ho6.form; clear ho6 hg6 hst)
      clear c5 c6 f6
      generalize World.setCell w6 _ _ = Y at *
      have bq := blk_of hP.out.b
      have b10 := hb10.out Y hP.out.lo
      have hqne : w.heap.size ≠ q := by omega
      go_wp2_with fail
      have hown := hP.out.own
      rw [hgr.out] at hown
      have b10h := blk_heap b10
      have hfo : OwnS (Y.setRow w.heap.size #[.int .u32 no, .int .u32 fi, .int .i64 (i : Nat), .int .i64 (m : Nat), .slice s6 (i + m) cap6]) w.heap.size (.slice s6 (i + m) cap6) (i + m) 2 (grD i I) := by
        refine OwnS.base (b := W.heap.size) (hown.kept (row := some w.heap.size) (only_setRow (only_refl Y _) (.inl rfl) _) ?_ (fun r hr => ?_)) (by omega)
        · rcases hv : (Value.slice s6 (i + m) cap6).ownBlock with _ | r
          · exact .inl rfl
          · refine .inr (fun e => ?_)
            injection e with e
            have := (hown.lt r hv).1
            have := hqh.out
            omega
        · injection hr with hr
          subst hr
          exact ⟨_, _, _, b10h, by decide⟩
      refine bodyPost_ret (v := .tuple #[.agg #[.int .u32 no, .int .u32 fi, .int .i64 (i : Nat), .int .i64 (m : Nat), .slice s6 (i + m) cap6], .bool true]) (results_row_tmp rfl _ _ w.heap.size 44 _ (0, 0) _ _ rfl rfl (setRow_heap _ _ _ _ _ _ b10h) Try.underlying44 rfl gw_info) rfl ⟨s6, cap6, rfl, hfo, below_setRow (hbl.out Y hP.out.lo) (Nat.le_refl _) _⟩
end Go.Proofs.Ytipfoclmdbbjiaa

/- group.Make. Conditions: the tables' block, what the inputs read as. -/
namespace Go.Proofs.Ytipfoclmdbbjiaa
open Go.RowKit
attribute [local irreducible] gexp gtbl glog rmul rinv rpow zexp mixF blk wLoad wLoadRes loadAns wStore wStoreRes storeAns Plain flF BRow MRow MAt By IsGf ivS rsF mlF RowsAt paF OwnS SlR dtF inV grD
attribute [local go_sem ↓] ld_g0 sto_g0
attribute [local go_sem] ld_g sto_g loadAns_some storeAns_some gg_size gg_plain blk_alloc_if blk_setRow_if blk_drew_at blk_drewN_at rowPut_some blk_setCell_if cellPut_some
set_option maxRecDepth 100000 in
set_option maxHeartbeats 2000000 in
theorem s_make_no (p : Nat) (no fi m : Int) (K : Nat) (si : Option Addr) (ci : Nat) (w : World) (h : K = 0 ∨ 16 < K ∨ m < 0 ∨ 16 < m) :
    Calls Try.prog 21 #[.pointer (some ⟨p, 0, none⟩), .int .u32 no, .int .u32 fi, .int .i64 m, .slice si K ci] w (MkNo w (.int .i64 60)) := by
  have hz := zeroGG
  have hB := Lib.hid (below_one w (.cells #[.int .u32 0, .int .u32 0, .int .i64 0, .int .i64 0, .slice none 0 0] 48))
  have b0 := blk_of (last_block0 w (.cells #[.int .u32 0, .int .u32 0, .int .i64 0, .int .i64 0, .slice none 0 0] 48) _ rfl)
  have hfin : Hid (∀ D, MkNo w (.int .i64 60) (.returned (.tuple #[.agg #[.int .u32 0, .int .u32 0, .int .i64 0, .int .i64 0, .slice none 0 0], .int .i64 60])) ((w.alloc (.cells #[.int .u32 0, .int .u32 0, .int .i64 0, .int .i64 0, .slice none 0 0] 48)).setRow w.heap.size D)) := hide (fun D => ⟨rfl, below_setRow hB.out (Nat.le_refl _) D⟩)
  have kno := Lib.hid (fun (h : (K : Int) < 1 ∨ m < 0) y => s_code_no (.pointer (some ⟨p, 0, none⟩)) K m y h)
  have b0h := Lib.hid b0
  by_cases h1 : 16 < K
  · have d0 : decide ((16 : Int) < (K : Int)) = true := decide_eq_true (by omega)
    have d1 : decide (16 < K) = true := decide_eq_true (by omega)
    clear h h1
    go_enter Try.func21, Try.ntmps21
    go_upto_region 1 with (fail)
    generalize World.alloc w _ = W at *
    go_wp2_with fail
    refine bodyPost_ret (v := .tuple #[.agg #[.int .u32 0, .int .u32 0, .int .i64 0, .int .i64 0, .slice none 0 0], .int .i64 60]) (results_row_tmp rfl _ _ w.heap.size 48 _ (0, 0) _ _ rfl rfl (setRow_heap _ _ _ _ _ _ (blk_heap b0h.out)) Try.underlying48 rfl gg_info) rfl (hfin.out _)
  · have d0 : decide ((16 : Int) < (K : Int)) = false := decide_eq_false (by omega)
    have d1 : decide (16 < K) = false := decide_eq_false (by omega)
    by_cases h2 : 16 < m
    · have d2 : decide (16 < m) = true := decide_eq_true h2
      clear h h1 h2
      go_enter Try.func21, Try.ntmps21
      go_upto_region 1 with (fail)
      generalize World.alloc w _ = W at *
      go_wp2_with fail
      refine bodyPost_ret (v := .tuple #[.agg #[.int .u32 0, .int .u32 0, .int .i64 0, .int .i64 0, .slice none 0 0], .int .i64 60]) (results_row_tmp rfl _ _ w.heap.size 48 _ (0, 0) _ _ rfl rfl (setRow_heap _ _ _ _ _ _ (blk_heap b0h.out)) Try.underlying48 rfl gg_info) rfl (hfin.out _)
    · have d2 : decide (16 < m) = false := decide_eq_false h2
      have h3 := Lib.hid (show (K : Int) < 1 ∨ m < 0 by omega)
      clear h h1 h2
      go_enter Try.func21, Try.ntmps21
      go_upto_region 1 with (fail)
      generalize World.alloc w _ = W at *
      go_wp2_with fail
      refine (kno.out h3.out W).mono ?_
      rintro e w2 ⟨rfl, rfl⟩
      go_wp2_with fail
      refine bodyPost_ret (v := .tuple #[.agg #[.int .u32 0, .int .u32 0, .int .i64 0, .int .i64 0, .slice none 0 0], .int .i64 60]) (results_row_tmp rfl _ _ w.heap.size 48 _ (0, 0) _ _ rfl rfl (setRow_heap _ _ _ _ _ _ (blk_heap b0h.out)) Try.underlying48 rfl gg_info) rfl (hfin.out _)
set_option maxRecDepth 100000 in
set_option maxHeartbeats 8000000 in
theorem s_make (p K m : Nat) (no fi : Int) (I : Nat → Nat) (si : Option Addr) (ci : Nat) (w : World) (hp : IsGf w p) (hs : ZAt w .u16 si K (fun i => (I i : Nat))) (hI : ∀ j, I j < 65536) (h0 : 1 ≤ K) (hK : K ≤ 16) (hm : m ≤ 16) :
    Calls Try.prog 21 #[.pointer (some ⟨p, 0, none⟩), .int .u32 no, .int .u32 fi, .int .i64 (m : Nat), .slice si K ci] w (MkPost w no fi K m I (.int .i64 0)) := by
  have hz := zeroGG
  have hph := Lib.hid hp
  have hpl := hp.lt
  have hsh := Lib.hid hs
  have hIh := Lib.hid hI
  have hB0 := below_one w (.cells #[.int .u32 0, .int .u32 0, .int .i64 0, .int .i64 0, .slice none 0 0] 48)
  have b0 := last_block0 w (.cells #[.int .u32 0, .int .u32 0, .int .i64 0, .int .i64 0, .slice none 0 0] 48) _ rfl
  have d0 : decide ((16 : Int) < (K : Int)) = false := decide_eq_false (by omega)
  have d1 : decide (16 < K) = false := decide_eq_false (by omega)
  have d2 : decide ((16 : Int) < (m : Int)) = false := decide_eq_false (by omega)
  have d3 : decide (16 < m) = false := decide_eq_false (by omega)
  have kcd := Lib.hid (fun y (hy : IsGf y p) => s_code p K m y hy h0 (by omega))
  have ken := Lib.hid (fun c y (s : Option Addr) (cap : Nat) (h1 : CodeAt y c p K m) (h2 : IsGf y p) (h3 : RowsAt y s K 2 (inV I)) => s_encode c p K m 2 s cap (inV I) y h1 h2 h3 (inV_bd I hI) h0 (by omega) (by omega))
  have kpt := Lib.hid (fun i y => w_put16 (I i) y (hI i))
  have hin : Hid (∀ i, put16F (I i) = inV I i) := hide (fun i => by funext t; unfold inV; rfl)
  have hgr : Hid (catV K (inV I) (paF K (inV I)) = grD K I) := hide (by unfold grD; rfl)
  clear hp hs hI
  go_enter Try.func21, Try.ntmps21
  go_upto_region 1 with (fail)
  generalize World.alloc w _ = W at *
  have hwW : w.heap.size < W.heap.size := (Array.getElem?_eq_some_iff.1 b0).1
  have b0h := Lib.hid b0
  have hB0h := Lib.hid hB0
  clear b0 hB0
  go_wp2_with fail
  refine (kcd.out W (hph.out.below hB0h.out hpl)).mono ?_
  rintro e w2 ⟨c, rfl, hc, hcd, hb2⟩
  have hcdh := Lib.hid hcd
  have hB2 := Lib.hid (hB0h.out.trans (hb2.mono (by omega)))
  have b2 := Lib.hid ((hb2.block _ hwW).trans b0h.out)
  have hsz2 := hb2.size
  clear hcd hb2
  go_upto_region 7 with (fail)
  obtain ⟨x0, x1, x2⟩ := boxed w2 #[.int .u32 0, .int .u32 0, .int .i64 0, .int .i64 0, .slice none 0 0] #[.int .u32 no, .int .u32 fi, .int .i64 (K : Nat), .int .i64 (m : Nat), .slice none 0 0] 48
  have hM0 : Hid (MkAt ((w2.alloc (.cells #[.int .u32 0, .int .u32 0, .int .i64 0, .int .i64 0, .slice none 0 0] 48)).setRow w2.heap.size #[.int .u32 no, .int .u32 fi, .int .i64 (K : Nat), .int .i64 (m : Nat), .slice none 0 0]) w2 w2.heap.size 48 no fi K m (.slice none 0 0) 0 2 (inV I)) := hide ⟨x0, OwnS.nil _ _ _ _, x2, Nat.le_refl _⟩
  generalize World.setRow (World.alloc w2 _) _ _ = X at *
  obtain ⟨q, hq⟩ : ∃ q, w2.heap.size = q := ⟨_, rfl⟩
  have hqw : w.heap.size < q := by omega
  rw [hq] at hM0 ⊢
  have hqh := Lib.hid hq
  have hcl : Hid (∀ y, Below w2.heap.size w2 y → CodeAt y c p K m) := hide (fun y hy => by
    obtain ⟨g, h1, h2⟩ := hcdh.out
    exact ⟨g, (hy.block c ((Array.getElem?_eq_some_iff.1 h1).1)).trans h1, h2.below hy⟩)
  have hbl : Hid (∀ y, Below w2.heap.size w2 y → Below w.heap.size w y) := hide (fun y hy => hB2.out.trans (hy.mono (by omega)))
  have hb10 : Hid (∀ y, Below w2.heap.size w2 y → blk y w.heap.size = some (.cells #[.int .u32 0, .int .u32 0, .int .i64 0, .int .i64 0, .slice none 0 0] 48 (0, 0))) := hide (fun y hy => (blk_below hy (by omega)).trans (blk_of b2.out))
  clear x0 x1 x2 hq
  go_upto_region 8 with (fail)
  go_loopw [46] (fun v46 wr => ∃ (i : Nat) (v : Value), i ≤ K ∧ v46 = .int .i64 (i : Nat) ∧ Hid (MkAt wr w2 q 48 no fi K m v i 2 (inV I))) (fun v46 _ => K - (intOf v46).toNat)
  case atStart => exact ⟨0, _, by omega, rfl, hM0⟩
  case round =>
    obtain ⟨i, v, hi, rfl, hM⟩ := hrel
    clear hM0
    by_cases hiK : i < K
    · have i1 : (i : Int) < (K : Int) := by omega
      obtain ⟨bi, oi, rfl, ci0⟩ := hsh.out i hiK
      have ci : wr.cell? ⟨bi, oi + i, none⟩ = some (.int .u16 (I i : Nat)) := ((hbl.out wr hM.out.lo).cell (cell_block_lt ci0)).trans ci0
      have hx := hIh.out i
      have hkpt := Lib.hid (kpt.out i)
      rw [hin.out i] at hkpt
      obtain ⟨xi, hxi⟩ : ∃ xi, I i = xi := ⟨_, rfl⟩
      rw [hxi] at ci hx hkpt
      clear ci0 hxi
      go_upto_region 10 with (fail)
      have hLd : Hid (Below wr.heap.size wr wr.drew) := hide (below_drewN (Below.refl _ _) 1)
      obtain ⟨sv, cv, rfl⟩ := hM.out.own.form
      refine h_begin 8 (fun _ => True) rfl (by kernel_rfl) trivial ?_
      have hHeld : (fun _ : World => True) wr.drew := trivial
      clear ci
      first
        | (refine h_run (i := 0) (v := ?_) hHeld rfl (by kernel_rfl) (by kernel_rfl) (by kernel_rfl) ?_ ?_ ?_
           rotate_left
           · rfl
           · (intro x hSx; (try dsimp only at hSx); go_simp <;> with_reducible rfl)
           simp only [Act.put, List.setIfInBounds_toArray, List.set_cons_zero, List.set_cons_succ])
        | (refine h_skip (i := 0) hHeld rfl (by kernel_rfl) (by kernel_rfl) (by kernel_rfl) ?_ ?_
           · rfl
           simp only [Act.put, List.setIfInBounds_toArray, List.set_cons_zero, List.set_cons_succ])
      first
        | (refine h_run (i := 2) (v := ?_) hHeld rfl (by kernel_rfl) (by kernel_rfl) (by kernel_rfl) ?_ ?_ ?_
           rotate_left
           · rfl
           · (intro x hSx; (try dsimp only at hSx); go_simp <;> with_reducible rfl)
           simp only [Act.put, List.setIfInBounds_toArray, List.set_cons_zero, List.set_cons_succ])
        | (refine h_skip (i := 2) hHeld rfl (by kernel_rfl) (by kernel_rfl) (by kernel_rfl) ?_ ?_
           · rfl
           simp only [Act.put, List.setIfInBounds_toArray, List.set_cons_zero, List.set_cons_succ])
      clear hHeld
      refine h_lcb (i := 1) (j := 3) (k := 4) (f := 33) (args := #[.slice none 0 0, .int .u16 (xi : Nat)]) (.slice sv i cv) (fun u => .cells #[u] 58) (fun x => Below wr.heap.size wr x) (fun u x => SlR x w2.heap.size 2 (inV I i) u) [1, 3] [1, 4]
        hLd.out (fun _ _ => trivial) (fun x u h => h.alloc h.size _) ?_ rfl rfl rfl (by kernel_rfl) (by decide) (by kernel_rfl) (by kernel_rfl) (by kernel_rfl) (by decide) (by kernel_rfl) (by kernel_rfl) (fun _ => rfl) (fun _ => rfl) (fun _ => rfl) (fun x hx => ?_) (fun x u hx => ?_) (fun x u b hx => ?_) ?_ ?_ (fun x u hx hu => ?_) (fun x u hx hu => ?_) (fun x u hx hu => ?_) rfl rfl (fun _ _ => rfl) (fun _ _ => rfl) ?_
      · refine (hkpt.out wr.drew).mono ?_
        rintro e x ⟨u, rfl, hu, hb⟩
        exact ⟨u, rfl, hLd.out.trans (hb.mono hLd.out.size), hu.base hM.out.lo.size⟩
      · have c4 := (hM.out.below hx).cell.1
        clear hx
        go_simp <;> with_reducible rfl
      · have c4 := (hM.out.below hx).cell.1
        clear hx
        go_simp <;> with_reducible rfl
      · have c4 := (hM.out.below hx).cell.1
        clear hx
        go_simp <;> with_reducible rfl
      · go_simp <;> with_reducible rfl
      · go_simp <;> with_reducible rfl
      · obtain ⟨gu, ku, rfl⟩ := hu.form
        clear hx hu
        go_simp <;> with_reducible rfl
      · obtain ⟨gu, ku, rfl⟩ := hu.form
        clear hx hu
        go_simp <;> with_reducible rfl
      · obtain ⟨gu, ku, rfl⟩ := hu.form
        clear hx hu
        go_simp <;> with_reducible rfl
      intro x u hx hu
      simp only [Act.put, List.setIfInBounds_toArray, List.set_cons_zero, List.set_cons_succ]
      have hMx := hM.out.below hx
      obtain ⟨v', w6, hr, ho6, hg6⟩ := run_snocS x _ w2.heap.size i 2 (inV I) u 42 hMx.own hu (by omega) hMx.lo.size
      refine h_value (i := 5) (v := v') (w' := w6) (fun _ => True) (fun _ h => h) rfl (by kernel_rfl) rfl ?_ trivial ?_
      · exact exec_appendM (.tmp 51) (.tmp 54) _ _ rfl rfl rfl hr
      simp only [Act.put, List.setIfInBounds_toArray, List.set_cons_zero, List.set_cons_succ]
      have hst := hMx.step (by decide) hg6 ho6
      have c6 : w6.cell? ⟨q, 4, none⟩ = some (.slice sv i cv) := (cell_of_block hst.1).trans rfl
      have f6 := frozen_of_row w6 q 4 _ _ hst.1
      have hP := Lib.hid (hMx.put (by decide) (by decide) hg6 ho6)
      obtain ⟨s6, cap6, rfl⟩ := ho6.form
      clear hMx hr ho6 hg6 hst hx hu
      have hHeld : (fun _ : World => True) w6 := trivial
      first
        | (refine h_run (i := 6) (v := ?_) hHeld rfl (by kernel_rfl) (by kernel_rfl) (by kernel_rfl) ?_ ?_ ?_
           rotate_left
           · rfl
           · (intro x hSx; (try dsimp only at hSx); go_simp <;> with_reducible rfl)
           simp only [Act.put, List.setIfInBounds_toArray, List.set_cons_zero, List.set_cons_succ])
        | (refine h_skip (i := 6) hHeld rfl (by kernel_rfl) (by kernel_rfl) (by kernel_rfl) ?_ ?_
           · rfl
           simp only [Act.put, List.setIfInBounds_toArray, List.set_cons_zero, List.set_cons_succ])
      clear hHeld
      refine h_write (i := 7) (w' := w6.setCell ⟨q, 4, none⟩ (.slice s6 (i + 1) cap6)) (fun _ => True) (fun _ h => h) rfl (by kernel_rfl) rfl ?_ trivial ?_
      · go_simp <;> with_reducible rfl
      refine h_done (by kernel_rfl) ?_
      clear c6 f6
      go_wp2_with fail
      go_roundw
      case rel => exact ⟨i + 1, _, by omega, by go_num, hP⟩
      case measure => simp [intOf]; omega
    · obtain rfl : i = K := by omega
      have i1 : decide ((i : Int) < (i : Int)) = false := by simp
      obtain ⟨sv, cv, rfl, hrw, _⟩ := hM.out.own.open
      have hrwh := Lib.hid hrw
      have c4 := hM.out.cell.1
      have hsz := hM.out.lo.size
      clear hrw
      go_wp2_with fail
      refine (ken.out c wr sv cv (hcl.out wr hM.out.lo) (hph.out.below (hbl.out wr hM.out.lo) hpl) hrwh.out).mono ?_
      rintro e w5 ⟨g5, rfl, hg5, ⟨W0, D, hap⟩, hb5⟩
      obtain ⟨A, hA1, hA2⟩ := hap.rowsS (by decide)
      have hA1h := Lib.hid hA1
      have hA2h := Lib.hid (fun j (hj : j < m) => (hA2 j hj).base (show w2.heap.size ≤ g5 by omega))
      have hM5 := Lib.hid (hM.out.below hb5)
      have c5 := hM5.out.cell.1
      have hs5 := hM5.out.lo.size
      clear hap hA1 hA2 hb5 c4
      go_upto_region 16 with (at_builtin; refine wpList_catS rfl (.tmp 70) (.tmp 71) rfl (.slice sv i cv) w2.heap.size i 2 m m (inV I) (paF i (inV I)) g5 A rfl rfl hM5.out.own hA1h.out hA2h.out (by omega) hs5 ?_; intro v' w6 ho6 hg6; have hst := hM5.out.step (by decide) hg6 ho6; have c6 : w6.cell? ⟨q, 4, none⟩ = some (.slice sv i cv) := (cell_of_block hst.1).trans rfl; have f6 := frozen_of_row w6 q 4 _ _ hst.1; have hP := Lib.hid (hM5.out.put (by decide) (by decide) hg6 ho6); obtain ⟨s6, cap6, rfl⟩ := ho6.form; clear ho6 hg6 hst)
      clear c5 c6 f6
      generalize World.setCell w6 _ _ = Y at *
      have bq := blk_of hP.out.b
      have b10 := hb10.out Y hP.out.lo
      have hqne : w.heap.size ≠ q := by omega
      go_wp2_with fail
      have hown := hP.out.own
      rw [hgr.out] at hown
      have b10h := blk_heap b10
      have hfo : OwnS (Y.setRow w.heap.size #[.int .u32 no, .int .u32 fi, .int .i64 (i : Nat), .int .i64 (m : Nat), .slice s6 (i + m) cap6]) w.heap.size (.slice s6 (i + m) cap6) (i + m) 2 (grD i I) := by
        refine OwnS.base (b := w2.heap.size) (hown.kept (row := some w.heap.size) (only_setRow (only_refl Y _) (.inl rfl) _) ?_ (fun r hr => ?_)) (by omega)
        · rcases hv : (Value.slice s6 (i + m) cap6).ownBlock with _ | r
          · exact .inl rfl
          · refine .inr (fun e => ?_)
            injection e with e
            have := (hown.lt r hv).1
            have := hqh.out
            omega
        · injection hr with hr
          subst hr
          exact ⟨_, _, _, b10h, by decide⟩
      refine bodyPost_ret (v := .tuple #[.agg #[.int .u32 no, .int .u32 fi, .int .i64 (i : Nat), .int .i64 (m : Nat), .slice s6 (i + m) cap6], .int .i64 0]) (results_row_tmp rfl _ _ w.heap.size 48 _ (0, 0) _ _ rfl rfl (setRow_heap _ _ _ _ _ _ b10h) Try.underlying48 rfl gg_info) rfl ⟨s6, cap6, rfl, hfo, below_setRow (hbl.out Y hP.out.lo) (Nat.le_refl _) _⟩
end Go.Proofs.Ytipfoclmdbbjiaa

/- Appending one slice of numbers to a row of numbers that a call made itself: what becomes of the row, and of all else. Lemmas alone. -/
namespace Go.Proofs.Ytipfoclmdbbjiaa
open Go.RowKit
def catZ (n : Nat) (f h : Nat → Int) (j : Nat) : Int := if j < n then f j else h (j - n)
set_option maxRecDepth 100000 in
theorem rowZ_cat (k : IntKind) (n m : Nat) (f h : Nat → Int) : rowZ k n f ++ rowZ k m h = rowZ k (n + m) (catZ n f h) := by
  apply List.ext_getElem?
  intro i
  by_cases h1 : i < n
  · rw [List.getElem?_append_left (by rw [rowZ_length]; exact h1), rowZ_get _ _ _ _ h1, rowZ_get _ _ _ _ (by omega)]
    unfold catZ; rw [if_pos h1]
  · rw [List.getElem?_append_right (by rw [rowZ_length]; omega), rowZ_length]
    by_cases h2 : i < n + m
    · rw [rowZ_get _ _ _ _ (by omega), rowZ_get _ _ _ _ h2]
      unfold catZ; rw [if_neg h1]
    · have e1 : ∀ (a : Nat) (g : Nat → Int) (j : Nat), a ≤ j → (rowZ k a g)[j]? = none := fun a g j hj => List.getElem?_eq_none (by rw [rowZ_length]; exact hj)
      rw [e1 _ _ _ (by omega), e1 _ _ _ (by omega)]
set_option maxRecDepth 100000 in
theorem own_baseZ {w : World} {b b' n : Nat} {v : Value} {xs : List Value} {T : TypeId} (h : w.ownsRow b T 1 v n xs) (hb : b' ≤ b) : w.ownsRow b' T 1 v n xs := by
  refine ⟨h.1, ?_⟩
  rcases h.2 with h1 | ⟨g, cap, cur, h1, h2, h3⟩
  · exact .inl h1
  · exact .inr ⟨g, cap, cur, h1, by omega, h3⟩
set_option maxRecDepth 100000 in
theorem OwnZ.base {w : World} {b b' n : Nat} {T : TypeId} {k : IntKind} {v : Value} {f : Nat → Int} (h : OwnZ w b T k v n f) (hb : b' ≤ b) : OwnZ w b' T k v n f := own_baseZ h hb
set_option maxRecDepth 100000 in
theorem OwnZ.form {w : World} {b n : Nat} {T : TypeId} {k : IntKind} {v : Value} {f : Nat → Int} (h : OwnZ w b T k v n f) : ∃ s cap, v = .slice s n cap := by
  obtain ⟨s, cap, h, _⟩ := h.open
  exact ⟨s, cap, h⟩
set_option maxRecDepth 100000 in
theorem run_catZ {P : Program} {S T : TypeId} {k : IntKind} {bytes : Nat} (hS : P.underlying S = some (.slice T)) (hI : (P.info? T).map (fun i => (i.zero, i.size, i.bytes)) = some (some (.int k 0), 1, bytes)) (hby : bytes ≤ 8)
    (w : World) (v : Value) (base n : Nat) (f : Nat → Int) (hown : OwnZ w base T k v n f)
    (A : Option Addr) (c m : Nat) (h : Nat → Int) (hA : ZAt w k A m h) (hnone : A = none → m = 0 ∧ c = 0) (hk : n + m ≤ 100000000) (hbase : base ≤ w.heap.size) (ty : TypeId) :
    ∃ v' w', (Builtin.append_ #[S, S] ty #[v, .slice A m c]).run P w = .ok v' w' ∧ OwnZ w' base T k v' (n + m) (catZ n f h) ∧ w.grownBy w' v.ownBlock ∧ (∀ b, v'.ownBlock = some b → v.ownBlock = some b ∨ w.heap.size ≤ b) := by
  obtain ⟨i0, hi, hz0, hz1, hz2⟩ := info_parts hI
  have hnews : ∀ ad, A = some ad → ∀ j u, (rowZ k m h)[j]? = some u → w.cell? (ad.add j) = some u := by
    intro ad hA2 j u hj
    have hjm : j < m := by have := (List.getElem?_eq_some_iff.1 hj).1; rw [rowZ_length] at this; exact this
    rw [rowZ_get _ _ _ _ hjm] at hj
    obtain ⟨b, off, he, hc⟩ := hA j hjm
    rw [hA2] at he
    injection he with he
    subst he
    injection hj with hj
    subst hj
    by_cases hz : j = 0
    · subst hz; simpa [Addr.add] using hc
    · simpa [Addr.add, hz] using hc
  have h1c : ∀ u ∈ rowZ k m h, u.oneCell' = true := by
    intro u hu
    unfold rowZ at hu
    obtain ⟨y, _, rfl⟩ := List.mem_map.1 hu
    rfl
  have hln : (rowZ k m h).length = m * 1 := by rw [rowZ_length]; simp
  have hbyt : (n + m) * bytes ≤ 140737488355328 := by
    have := Nat.mul_le_mul (show n + m ≤ 100000000 by omega) hby
    omega
  cases A with
  | none =>
    obtain ⟨rfl, rfl⟩ := hnone rfl
    refine ⟨v, w, run_append_owned_none (P := P) (w := w) base S ty T i0 1 hS hi _ n _ hown, OwnZ.congr (show OwnZ w base T k v (n + 0) f from hown) (fun j hj => by unfold catZ; rw [if_pos (by omega)]), only_refl _ _, fun b hb => .inl hb⟩
  | some ad =>
    have hc := hnews ad rfl
    rcases hown.2 with ⟨hv, hn⟩ | ⟨g, cap, cur, hv, q1, q2, q3, q4, q5, q6⟩
    · subst hn hv
      have hown' : w.ownsRow w.heap.size T 1 (.slice none 0 0) 0 (rowZ k 0 f) := World.ownsRow_nil _ _ _ _
      obtain ⟨v', w', hr, h2, h3, _⟩ := run_append_own (P := P) w w.heap.size S ty T i0 (.int k 0) 1 bytes hS hi hz0 hz1 hz2 rfl (by decide) _ 0 _ hown' ad m c _ hln hc h1c (by unfold maxLen; omega) hbyt (Nat.le_refl _)
      rw [rowZ_cat] at h2
      exact ⟨v', w', hr, own_baseZ h2 hbase, h3, fun b hb => .inr ((World.ownsRow.lt h2) b hb).1⟩
    · subst hv
      by_cases hr : n + m ≤ cap
      · obtain ⟨w', hrun, h2, h3⟩ := run_append_fits (P := P) w base S ty T i0 1 hS hi hz1 g n cap _ hown ad m c _ hln hc h1c hr
        rw [rowZ_cat] at h2
        exact ⟨_, w', hrun, h2, h3, fun b hb => .inl hb⟩
      · obtain ⟨v', w', hrun, h2, h3⟩ := run_append_arg_grows (P := P) w S ty T i0 (.int k 0) 1 bytes hS hi hz0 hz1 hz2 rfl (by decide) ⟨g, 0, none⟩ n cap (rowZ k n f) (by rw [rowZ_length]; simp) (fun j u hj => World.ownsRow.cells hown rfl j u hj) ad m c _ hln hc (by omega) (by unfold maxLen; omega) hbyt
        rw [rowZ_cat] at h2
        exact ⟨v', w', hrun, own_baseZ h2 hbase, ⟨h3.os, h3.tape, h3.output, h3.size, fun i hi _ => h3.block i hi (by simp)⟩, fun b hb => .inr ((World.ownsRow.lt h2) b hb).1⟩
set_option maxRecDepth 100000 in
theorem wpList_app_runZ {P : Program} {ops : Array Oper} {rest : List Oper} {o : Oper} {a : Act} {w w' : World} {Q : Exit → Act → World → Prop} {v xv r : Value} (hgd : o.guard = none) (s x : Operand) (t u : TypeId)
    (ho : o.op = .call { callee := .builtin .append, args := #[s, x], argTypes := #[t, u] }) (hs : a.eval s = v) (hx : a.eval x = xv)
    (hr : (Builtin.append_ #[t, u] o.type #[v, xv]).run P w = .ok r w') (h : wpList P ops Q rest (a.put o.dst r) w') : wpList P ops Q (o :: rest) a w :=
  wpList_plain hgd fun _ hK => by
    unfold Oper.wp
    rw [exec_appendM s x t u ho hs hx hr]
    exact hK _ _ h
set_option maxRecDepth 100000 in
/-- append(s, p...) -/
theorem wpList_catZ {P : Program} {S T : TypeId} {k : IntKind} {bytes : Nat} (hS : P.underlying S = some (.slice T)) (hI : (P.info? T).map (fun i => (i.zero, i.size, i.bytes)) = some (some (.int k 0), 1, bytes)) (hby : bytes ≤ 8)
    {ops : Array Oper} {rest : List Oper} {o : Oper} {a : Act} {w : World} {Q : Exit → Act → World → Prop} (hgd : o.guard = none) (s x : Operand)
    (ho : o.op = .call { callee := .builtin .append, args := #[s, x], argTypes := #[S, S] })
    (v : Value) (base n : Nat) (f : Nat → Int) (A : Option Addr) (c m : Nat) (h : Nat → Int) (hs : a.eval s = v) (hx : a.eval x = .slice A m c)
    (hown : OwnZ w base T k v n f) (hA : ZAt w k A m h) (hnone : A = none → m = 0 ∧ c = 0) (hk : n + m ≤ 100000000) (hbase : base ≤ w.heap.size)
    (hq : ∀ v' w', OwnZ w' base T k v' (n + m) (catZ n f h) → w.grownBy w' v.ownBlock → (∀ b, v'.ownBlock = some b → v.ownBlock = some b ∨ w.heap.size ≤ b) → wpList P ops Q rest (a.put o.dst v') w') :
    wpList P ops Q (o :: rest) a w := by
  obtain ⟨v', w', hr, h1, h2, h3⟩ := run_catZ hS hI hby w v base n f hown A c m h hA hnone hk hbase o.type
  exact wpList_app_runZ hgd s x _ _ ho hs hx hr (hq v' w' h1 h2 h3)
set_option maxRecDepth 100000 in
/-- append(s, x), one number -/
theorem wpList_snocZ2 {P : Program} {S T : TypeId} {k : IntKind} {bytes : Nat} (hS : P.underlying S = some (.slice T)) (hI : (P.info? T).map (fun i => (i.zero, i.size, i.bytes)) = some (some (.int k 0), 1, bytes)) (hby : bytes ≤ 8)
    {ops : Array Oper} {rest : List Oper} {o : Oper} {a : Act} {w : World} {Q : Exit → Act → World → Prop} (hgd : o.guard = none) (s x : Operand)
    (ho : o.op = .call { callee := .builtin .append, args := #[s, x], argTypes := #[S, S] })
    (W : World) (v : Value) (base n : Nat) (f : Nat → Int) (u : Int) (hs : a.eval s = v) (hw : w = W.alloc (.cells #[.int k u] T)) (hx : a.eval x = .slice (some ⟨W.heap.size, 0, none⟩) 1 1)
    (hown : OwnZ W base T k v n f) (hn : n ≤ 90000000) (hbase : base ≤ W.heap.size)
    (hq : ∀ v' w', OwnZ w' base T k v' (n + 1) (fun j => if j = n then u else f j) → W.grownBy w' v.ownBlock → (∀ b, v'.ownBlock = some b → v.ownBlock = some b ∨ W.heap.size ≤ b) → wpList P ops Q rest (a.put o.dst v') w') :
    wpList P ops Q (o :: rest) a w := by
  subst hw
  have hb : Below W.heap.size W (W.alloc (.cells #[.int k u] T)) := (Below.refl _ _).alloc (Nat.le_refl _) _
  have hsz : (W.alloc (.cells #[.int k u] T)).heap.size = W.heap.size + 1 := by show (W.heap.push _).size = _; rw [Array.size_push]
  refine wpList_catZ hS hI hby hgd s x ho v base n f (some ⟨W.heap.size, 0, none⟩) 1 1 (fun _ => u) hs hx (hown.below hb) (fun i hi => ⟨W.heap.size, 0, rfl, ?_⟩) (fun e => by cases e) (by omega) (by omega) (fun v' w' h1 h2 h3 => hq v' w' (h1.congr (fun j hj => ?_)) ⟨h2.os, h2.tape, h2.output, by have := h2.size; omega, fun i hi hne => (h2.block i (by omega) hne).trans (Below.heap_alloc W _ i hi)⟩ (fun b hb => (h3 b hb).imp id (by omega)))
  · obtain rfl : i = 0 := by omega
    rw [Nat.zero_add, cell_of_block (last_block0 W (.cells #[.int k u] T) _ rfl)]
    rfl
  · unfold catZ
    by_cases e : j = n
    · subst e; rw [if_neg (by omega), if_pos rfl]
    · rw [if_pos (by omega), if_neg e]
end Go.Proofs.Ytipfoclmdbbjiaa

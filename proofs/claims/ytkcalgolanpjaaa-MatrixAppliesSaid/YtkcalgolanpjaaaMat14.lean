/- The law's awake of layer 5. -/
import Derived.Test.YtkcalgolanpjaaaMat13
namespace Go.Proofs.Ytkcalgolanpjaaa
open Go.RowKit
theorem aw_piv : ∀ j, j < 2 → pvF (ivS idF 2 j).1 j 2 j < 2 := by decide +kernel
theorem aw_inv : ∀ r, r < 2 → ∀ c, c < 2 → (ivS idF 2 2).2 r c = idF r c := by decide +kernel
def awP (j : Nat) : Nat := [1, 0, 1, 1, 1, 2].getD j 0
theorem aw_pow : ∀ j, j < 6 → flF 2 pwF j = awP j := by decide +kernel
theorem m_id2 (w : World) : Calls Try.prog 26 #[.int .i64 2] w (fun e w' => ∃ g, e = .returned (.tuple #[.agg #[.int .i64 2, .int .i64 2, .slice (some ⟨g, 0, none⟩) 4 4], .int .i64 0]) ∧ w.heap.size ≤ g ∧ MRow w' g 2 2 idF ∧ Below w.heap.size w w') := m_identity 2 w (by omega)
theorem m_iv2 (p g : Nat) (w : World) (hp : IsGf w p) (hm : MRow w g 2 2 idF) :
    Calls Try.prog 13 #[.pointer (some ⟨p, 0, none⟩), .agg #[.int .i64 2, .int .i64 2, .slice (some ⟨g, 0, none⟩) 4 4]] w (fun e w' => ∃ h, e = .returned (.tuple #[.agg #[.int .i64 2, .int .i64 2, .slice (some ⟨h, 0, none⟩) 4 4], .int .i64 0]) ∧ By w' (some ⟨h, 0, none⟩) 4 (flF 2 idF) ∧ Below w.heap.size w w') := by
  refine (m_invert p 2 (some ⟨g, 0, none⟩) 4 idF w hp hm.mat (fun e => by cases e) id_bd (by omega)).mono fun e w' h => ?_
  obtain ⟨q, he, _, hr, hb⟩ := h.1 aw_piv
  exact ⟨q, he, (hr.congr (fun r c h1 h2 => aw_inv r h1 c h2)).mat.by, hb⟩
theorem m_pw32 (p : Nat) (w : World) (hp : IsGf w p) :
    Calls Try.prog 25 #[.pointer (some ⟨p, 0, none⟩), .int .i64 3, .int .i64 2] w (fun e w' => ∃ h, e = .returned (.tuple #[.agg #[.int .i64 3, .int .i64 2, .slice (some ⟨h, 0, none⟩) 6 6], .int .i64 0]) ∧ By w' (some ⟨h, 0, none⟩) 6 awP ∧ Below w.heap.size w w') := by
  refine (m_powers p 3 2 w hp (by omega) (by omega)).mono fun e w' h => ?_
  obtain ⟨q, he, _, hr, hb⟩ := h
  exact ⟨q, he, hr.mat.by.congr aw_pow, hb⟩
theorem aw_lit (w : World) : SlN .u8 (w.alloc (.cells #[.int .u8 1, .int .u8 0, .int .u8 1, .int .u8 1, .int .u8 1, .int .u8 2] 5)) (some ⟨w.heap.size, 0, none⟩) [1, 0, 1, 1, 1, 2] := SlN.lit .u8 _ (last_block0 w _ _ rfl) rfl
theorem aw_sl {w : World} {s : Option Addr} (h : By w s 6 awP) : SlN .u8 w s [1, 0, 1, 1, 1, 2] := h.sl
theorem gf_new_below (w : World) : Calls Try.prog 12 #[] w (fun e w' => e = .returned (.pointer (some ⟨w.heap.size, 0, none⟩)) ∧ IsGf w' w.heap.size ∧ Below w.heap.size w w') :=
  (gf_new w).mono fun e w' h => by
    obtain ⟨he, n, rfl⟩ := h
    exact ⟨he, IsGf.made w n, below_drewN (below_one w _) n⟩
attribute [local irreducible] gexp gtbl glog rmul rinv rpow zexp mixF blk wLoad wLoadRes loadAns wStore wStoreRes storeAns Plain flF BRow MRow IsGf MAt By
attribute [local go_sem ↓] ld_m0 ld_x0 sto_m0 sto_x0
attribute [local go_sem] ld_m ld_x sto_m sto_x loadAns_some storeAns_some mx_size mx_plain blk_alloc_if blk_setRow_if blk_drew_at blk_drewN_at rowPut_some blk_setCell_if cellPut_some
set_option maxRecDepth 100000 in
set_option maxHeartbeats 4000000 in
theorem m_awake (w : World) : Calls Try.prog 10 #[] w (Ret w (.bool true)) := by
  have hz := zeroM
  go_enter Try.func10, Try.ntmps10
  go_wp2_with fail
  refine (gf_new_below w).mono ?_
  rintro e w1 ⟨rfl, hp, hb1⟩
  have hph := Lib.hid hp
  have hb1h := Lib.hid hb1
  have hpl := hp.lt
  clear hp hb1
  generalize hpe : w.heap.size = p at *
  have hpeh := Lib.hid hpe
  clear hpe
  go_wp2_with fail
  refine (m_id2 w1).mono ?_
  rintro e w2 ⟨g, rfl, hg, hm, hb2⟩
  have hm2 := Lib.hid hm
  have hgl := hm.lt
  have hp2 := Lib.hid (hph.out.below hb2 hpl)
  have hb2h := Lib.hid (hb1h.out.trans (hb2.mono (Nat.le_of_lt hpl)))
  have hs2 := hb2.size
  clear hm hb2
  go_upto_region 5 with (fail)
  obtain ⟨x0, x1, x2⟩ := boxed w2 #[.int .i64 0, .int .i64 0, .slice none 0 0] #[.int .i64 2, .int .i64 2, .slice (some ⟨g, 0, none⟩) 4 4] 24
  generalize World.setRow (World.alloc w2 _) _ _ = X at *
  have hX1 : w2.heap.size < X.heap.size := by omega
  have hmX := Lib.hid (hm2.out.below x2 hgl)
  have hpX := Lib.hid (hp2.out.below x2 hp2.out.lt)
  have hpl2 : p < w2.heap.size := hp2.out.lt
  have hbX := Lib.hid (hb2h.out.trans (x2.mono (by omega)))
  have bX := blk_of x0
  have bXh := Lib.hid bX
  clear x0 x1 x2
  go_wp2_with fail
  refine (m_iv2 p g X hpX.out hmX.out).mono ?_
  rintro e w3 ⟨h, rfl, hby3, hb3⟩
  have hby3h := Lib.hid hby3
  have hm3 := Lib.hid (hmX.out.below hb3 hmX.out.lt)
  have hp3 := Lib.hid (hpX.out.below hb3 hpX.out.lt)
  have hpl3 : p < X.heap.size := hpX.out.lt
  have hb3h := Lib.hid (hbX.out.trans (hb3.mono (by omega)))
  have b23 := Lib.hid ((blk_below hb3 hX1).trans bXh.out)
  have hs3 := hb3.size
  clear hby3 hb3 bX
  go_upto_region 6 with (fail)
  obtain ⟨x0, x1, x2⟩ := boxed w3 #[.int .i64 0, .int .i64 0, .slice none 0 0] #[.int .i64 2, .int .i64 2, .slice (some ⟨h, 0, none⟩) 4 4] 24
  generalize World.setRow (World.alloc w3 _) _ _ = Y at *
  have hY1 : w3.heap.size < Y.heap.size := by omega
  have hbyY := Lib.hid (hby3h.out.below x2)
  have hmY := Lib.hid (hm3.out.below x2 hm3.out.lt)
  have hpY := Lib.hid (hp3.out.below x2 hp3.out.lt)
  have hbY := Lib.hid (hb3h.out.trans (x2.mono (by omega)))
  have b2Y := Lib.hid ((blk_below x2 (by omega)).trans b23.out)
  have bY := Lib.hid (blk_of x0)
  have hplY : p < Y.heap.size := hpY.out.lt
  clear x0 x1 x2
  go_wp2_with fail
  refine (m_pw32 p Y hpY.out).mono ?_
  rintro e w4 ⟨q, rfl, hpw4, hb4⟩
  have hpw4h := Lib.hid hpw4
  have hby4 := Lib.hid (hbyY.out.below hb4)
  have hm4 := Lib.hid (hmY.out.below hb4 hmY.out.lt)
  have hb4h := Lib.hid (hbY.out.trans (hb4.mono (by omega)))
  have b24 := Lib.hid ((blk_below hb4 (show w2.heap.size < Y.heap.size by omega)).trans b2Y.out)
  have b44 := Lib.hid ((blk_below hb4 hY1).trans bY.out)
  have hs4 := hb4.size
  clear hpw4 hb4
  go_upto_region 7 with (fail)
  obtain ⟨x0, x1, x2⟩ := boxed w4 #[.int .i64 0, .int .i64 0, .slice none 0 0] #[.int .i64 3, .int .i64 2, .slice (some ⟨q, 0, none⟩) 6 6] 24
  generalize World.setRow (World.alloc w4 _) _ _ = Z at *
  have hS : Hid (∀ y, Below Z.heap.size Z y → (blk y w2.heap.size = some (.cells #[.int .i64 2, .int .i64 2, .slice (some ⟨g, 0, none⟩) 4 4] 24 (0, 0)) ∧ blk y w3.heap.size = some (.cells #[.int .i64 2, .int .i64 2, .slice (some ⟨h, 0, none⟩) 4 4] 24 (0, 0)) ∧ y.cell? ⟨w4.heap.size, 2, none⟩ = some (.slice (some ⟨q, 0, none⟩) 6 6))) := hide (fun y hy =>
    ⟨(blk_below hy (by omega)).trans ((blk_below x2 (by omega)).trans b24.out), (blk_below hy (by omega)).trans ((blk_below x2 (by omega)).trans b44.out), (cell_of_block ((hy.block _ (by omega)).trans x0)).trans rfl⟩)
  have hbZ := Lib.hid (hb4h.out.trans (x2.mono (by omega)))
  have hbyZ := Lib.hid (hby4.out.below x2)
  have hmZ := Lib.hid (hm4.out.below x2 hm4.out.lt)
  have hpwZ := Lib.hid (hpw4h.out.below x2)
  have hplZ : p < Z.heap.size := by omega
  have hBd := Lib.hid (below_drewN (Below.refl Z.heap.size Z) 1)
  clear x0 x1 x2
  refine h_begin 24 (fun y : World => blk y w2.heap.size = some (.cells #[.int .i64 2, .int .i64 2, .slice (some ⟨g, 0, none⟩) 4 4] 24 (0, 0)) ∧ blk y w3.heap.size = some (.cells #[.int .i64 2, .int .i64 2, .slice (some ⟨h, 0, none⟩) 4 4] 24 (0, 0)) ∧ y.cell? ⟨w4.heap.size, 2, none⟩ = some (.slice (some ⟨q, 0, none⟩) 6 6)) rfl (by kernel_rfl) (hS.out _ hBd.out) ?_
  have hHeld : (fun y : World => blk y w2.heap.size = some (.cells #[.int .i64 2, .int .i64 2, .slice (some ⟨g, 0, none⟩) 4 4] 24 (0, 0)) ∧ blk y w3.heap.size = some (.cells #[.int .i64 2, .int .i64 2, .slice (some ⟨h, 0, none⟩) 4 4] 24 (0, 0)) ∧ y.cell? ⟨w4.heap.size, 2, none⟩ = some (.slice (some ⟨q, 0, none⟩) 6 6)) Z.drew := hS.out _ hBd.out
  first
    | (refine h_run (i := 0) (v := ?_) hHeld rfl (by kernel_rfl) (by kernel_rfl) (by kernel_rfl) ?_ ?_ ?_
       rotate_left
       · rfl
       · (intro x hSx; (try dsimp only at hSx); go_simp <;> with_reducible rfl)
       simp only [Act.put, List.setIfInBounds_toArray, List.set_cons_zero, List.set_cons_succ])
    | (refine h_skip (i := 0) hHeld rfl (by kernel_rfl) (by kernel_rfl) (by kernel_rfl) ?_ ?_
       · rfl
       simp only [Act.put, List.setIfInBounds_toArray, List.set_cons_zero, List.set_cons_succ])
  first
    | (refine h_run (i := 1) (v := ?_) hHeld rfl (by kernel_rfl) (by kernel_rfl) (by kernel_rfl) ?_ ?_ ?_
       rotate_left
       · rfl
       · (intro x hSx; (try dsimp only at hSx); go_simp <;> with_reducible rfl)
       simp only [Act.put, List.setIfInBounds_toArray, List.set_cons_zero, List.set_cons_succ])
    | (refine h_skip (i := 1) hHeld rfl (by kernel_rfl) (by kernel_rfl) (by kernel_rfl) ?_ ?_
       · rfl
       simp only [Act.put, List.setIfInBounds_toArray, List.set_cons_zero, List.set_cons_succ])
  first
    | (refine h_run (i := 2) (v := ?_) hHeld rfl (by kernel_rfl) (by kernel_rfl) (by kernel_rfl) ?_ ?_ ?_
       rotate_left
       · rfl
       · (intro x hSx; (try dsimp only at hSx); go_simp <;> with_reducible rfl)
       simp only [Act.put, List.setIfInBounds_toArray, List.set_cons_zero, List.set_cons_succ])
    | (refine h_skip (i := 2) hHeld rfl (by kernel_rfl) (by kernel_rfl) (by kernel_rfl) ?_ ?_
       · rfl
       simp only [Act.put, List.setIfInBounds_toArray, List.set_cons_zero, List.set_cons_succ])
  first
    | (refine h_run (i := 3) (v := ?_) hHeld rfl (by kernel_rfl) (by kernel_rfl) (by kernel_rfl) ?_ ?_ ?_
       rotate_left
       · rfl
       · (intro x hSx; (try dsimp only at hSx); go_simp <;> with_reducible rfl)
       simp only [Act.put, List.setIfInBounds_toArray, List.set_cons_zero, List.set_cons_succ])
    | (refine h_skip (i := 3) hHeld rfl (by kernel_rfl) (by kernel_rfl) (by kernel_rfl) ?_ ?_
       · rfl
       simp only [Act.put, List.setIfInBounds_toArray, List.set_cons_zero, List.set_cons_succ])
  first
    | (refine h_run (i := 4) (v := ?_) hHeld rfl (by kernel_rfl) (by kernel_rfl) (by kernel_rfl) ?_ ?_ ?_
       rotate_left
       · rfl
       · (intro x hSx; (try dsimp only at hSx); go_simp <;> with_reducible rfl)
       simp only [Act.put, List.setIfInBounds_toArray, List.set_cons_zero, List.set_cons_succ])
    | (refine h_skip (i := 4) hHeld rfl (by kernel_rfl) (by kernel_rfl) (by kernel_rfl) ?_ ?_
       · rfl
       simp only [Act.put, List.setIfInBounds_toArray, List.set_cons_zero, List.set_cons_succ])
  first
    | (refine h_run (i := 5) (v := ?_) hHeld rfl (by kernel_rfl) (by kernel_rfl) (by kernel_rfl) ?_ ?_ ?_
       rotate_left
       · rfl
       · (intro x hSx; (try dsimp only at hSx); go_simp <;> with_reducible rfl)
       simp only [Act.put, List.setIfInBounds_toArray, List.set_cons_zero, List.set_cons_succ])
    | (refine h_skip (i := 5) hHeld rfl (by kernel_rfl) (by kernel_rfl) (by kernel_rfl) ?_ ?_
       · rfl
       simp only [Act.put, List.setIfInBounds_toArray, List.set_cons_zero, List.set_cons_succ])
  first
    | (refine h_run (i := 6) (v := ?_) hHeld rfl (by kernel_rfl) (by kernel_rfl) (by kernel_rfl) ?_ ?_ ?_
       rotate_left
       · rfl
       · (intro x hSx; (try dsimp only at hSx); go_simp <;> with_reducible rfl)
       simp only [Act.put, List.setIfInBounds_toArray, List.set_cons_zero, List.set_cons_succ])
    | (refine h_skip (i := 6) hHeld rfl (by kernel_rfl) (by kernel_rfl) (by kernel_rfl) ?_ ?_
       · rfl
       simp only [Act.put, List.setIfInBounds_toArray, List.set_cons_zero, List.set_cons_succ])
  first
    | (refine h_run (i := 7) (v := ?_) hHeld rfl (by kernel_rfl) (by kernel_rfl) (by kernel_rfl) ?_ ?_ ?_
       rotate_left
       · rfl
       · (intro x hSx; (try dsimp only at hSx); go_simp <;> with_reducible rfl)
       simp only [Act.put, List.setIfInBounds_toArray, List.set_cons_zero, List.set_cons_succ])
    | (refine h_skip (i := 7) hHeld rfl (by kernel_rfl) (by kernel_rfl) (by kernel_rfl) ?_ ?_
       · rfl
       simp only [Act.put, List.setIfInBounds_toArray, List.set_cons_zero, List.set_cons_succ])
  first
    | (refine h_run (i := 8) (v := ?_) hHeld rfl (by kernel_rfl) (by kernel_rfl) (by kernel_rfl) ?_ ?_ ?_
       rotate_left
       · rfl
       · (intro x hSx; (try dsimp only at hSx); go_simp <;> with_reducible rfl)
       simp only [Act.put, List.setIfInBounds_toArray, List.set_cons_zero, List.set_cons_succ])
    | (refine h_skip (i := 8) hHeld rfl (by kernel_rfl) (by kernel_rfl) (by kernel_rfl) ?_ ?_
       · rfl
       simp only [Act.put, List.setIfInBounds_toArray, List.set_cons_zero, List.set_cons_succ])
  first
    | (refine h_run (i := 9) (v := ?_) hHeld rfl (by kernel_rfl) (by kernel_rfl) (by kernel_rfl) ?_ ?_ ?_
       rotate_left
       · rfl
       · (intro x hSx; (try dsimp only at hSx); go_simp <;> with_reducible rfl)
       simp only [Act.put, List.setIfInBounds_toArray, List.set_cons_zero, List.set_cons_succ])
    | (refine h_skip (i := 9) hHeld rfl (by kernel_rfl) (by kernel_rfl) (by kernel_rfl) ?_ ?_
       · rfl
       simp only [Act.put, List.setIfInBounds_toArray, List.set_cons_zero, List.set_cons_succ])
  first
    | (refine h_run (i := 10) (v := ?_) hHeld rfl (by kernel_rfl) (by kernel_rfl) (by kernel_rfl) ?_ ?_ ?_
       rotate_left
       · rfl
       · (intro x hSx; (try dsimp only at hSx); go_simp <;> with_reducible rfl)
       simp only [Act.put, List.setIfInBounds_toArray, List.set_cons_zero, List.set_cons_succ])
    | (refine h_skip (i := 10) hHeld rfl (by kernel_rfl) (by kernel_rfl) (by kernel_rfl) ?_ ?_
       · rfl
       simp only [Act.put, List.setIfInBounds_toArray, List.set_cons_zero, List.set_cons_succ])
  first
    | (refine h_run (i := 11) (v := ?_) hHeld rfl (by kernel_rfl) (by kernel_rfl) (by kernel_rfl) ?_ ?_ ?_
       rotate_left
       · rfl
       · (intro x hSx; (try dsimp only at hSx); go_simp <;> with_reducible rfl)
       simp only [Act.put, List.setIfInBounds_toArray, List.set_cons_zero, List.set_cons_succ])
    | (refine h_skip (i := 11) hHeld rfl (by kernel_rfl) (by kernel_rfl) (by kernel_rfl) ?_ ?_
       · rfl
       simp only [Act.put, List.setIfInBounds_toArray, List.set_cons_zero, List.set_cons_succ])
  first
    | (refine h_run (i := 13) (v := ?_) hHeld rfl (by kernel_rfl) (by kernel_rfl) (by kernel_rfl) ?_ ?_ ?_
       rotate_left
       · rfl
       · (intro x hSx; (try dsimp only at hSx); go_simp <;> with_reducible rfl)
       simp only [Act.put, List.setIfInBounds_toArray, List.set_cons_zero, List.set_cons_succ])
    | (refine h_skip (i := 13) hHeld rfl (by kernel_rfl) (by kernel_rfl) (by kernel_rfl) ?_ ?_
       · rfl
       simp only [Act.put, List.setIfInBounds_toArray, List.set_cons_zero, List.set_cons_succ])
  clear hHeld
  refine h_call (i := 12) (fun y : World => blk y w2.heap.size = some (.cells #[.int .i64 2, .int .i64 2, .slice (some ⟨g, 0, none⟩) 4 4] 24 (0, 0)) ∧ blk y w3.heap.size = some (.cells #[.int .i64 2, .int .i64 2, .slice (some ⟨h, 0, none⟩) 4 4] 24 (0, 0)) ∧ y.cell? ⟨w4.heap.size, 2, none⟩ = some (.slice (some ⟨q, 0, none⟩) 6 6)) (fun _ h => h) (l_ref 2 2 (some ⟨h, 0, none⟩) 4 4 Z.drew) rfl (by kernel_rfl) rfl ?_ ?_
  · go_simp <;> with_reducible rfl
  rintro e y1 ⟨rfl, hy1⟩
  have hY := Lib.hid (below_step hBd.out hBd.out.size hy1)
  refine ⟨_, rfl, hS.out _ hY.out, ?_⟩
  refine h_call (i := 14) (fun y : World => blk y w2.heap.size = some (.cells #[.int .i64 2, .int .i64 2, .slice (some ⟨g, 0, none⟩) 4 4] 24 (0, 0)) ∧ blk y w3.heap.size = some (.cells #[.int .i64 2, .int .i64 2, .slice (some ⟨h, 0, none⟩) 4 4] 24 (0, 0)) ∧ y.cell? ⟨w4.heap.size, 2, none⟩ = some (.slice (some ⟨q, 0, none⟩) 6 6)) (fun _ h => h) (l_ref 2 2 (some ⟨g, 0, none⟩) 4 4 y1) rfl (by kernel_rfl) rfl ?_ ?_
  · go_simp <;> with_reducible rfl
  rintro e y2 ⟨rfl, hy2⟩
  have hY2 := Lib.hid (below_step hY.out hY.out.size hy2)
  refine ⟨_, rfl, hS.out _ hY2.out, ?_⟩
  clear hy1 hy2
  refine h_call (i := 15) (fun y : World => blk y w2.heap.size = some (.cells #[.int .i64 2, .int .i64 2, .slice (some ⟨g, 0, none⟩) 4 4] 24 (0, 0)) ∧ blk y w3.heap.size = some (.cells #[.int .i64 2, .int .i64 2, .slice (some ⟨h, 0, none⟩) 4 4] 24 (0, 0)) ∧ y.cell? ⟨w4.heap.size, 2, none⟩ = some (.slice (some ⟨q, 0, none⟩) 6 6)) (fun _ h => h) (x_same 2 2 (some ⟨h, 0, none⟩) (some ⟨g, 0, none⟩) 4 4 4 (flF 2 idF) y2 (hbyZ.out.below hY2.out) ((hmZ.out.below hY2.out hmZ.out.lt).mat.by) (by omega)) rfl (by kernel_rfl) rfl ?_ ?_
  · go_simp <;> with_reducible rfl
  rintro e y3 ⟨rfl, hy3⟩
  have hY3 := Lib.hid (below_step hY2.out hY2.out.size hy3)
  refine ⟨_, rfl, hS.out _ hY3.out, ?_⟩
  clear hy3
  have hHeld : (fun y : World => blk y w2.heap.size = some (.cells #[.int .i64 2, .int .i64 2, .slice (some ⟨g, 0, none⟩) 4 4] 24 (0, 0)) ∧ blk y w3.heap.size = some (.cells #[.int .i64 2, .int .i64 2, .slice (some ⟨h, 0, none⟩) 4 4] 24 (0, 0)) ∧ y.cell? ⟨w4.heap.size, 2, none⟩ = some (.slice (some ⟨q, 0, none⟩) 6 6)) y3 := hS.out _ hY3.out
  first
    | (refine h_run (i := 16) (v := ?_) hHeld rfl (by kernel_rfl) (by kernel_rfl) (by kernel_rfl) ?_ ?_ ?_
       rotate_left
       · rfl
       · (intro x hSx; (try dsimp only at hSx); go_simp <;> with_reducible rfl)
       simp only [Act.put, List.setIfInBounds_toArray, List.set_cons_zero, List.set_cons_succ])
    | (refine h_skip (i := 16) hHeld rfl (by kernel_rfl) (by kernel_rfl) (by kernel_rfl) ?_ ?_
       · rfl
       simp only [Act.put, List.setIfInBounds_toArray, List.set_cons_zero, List.set_cons_succ])
  first
    | (refine h_run (i := 17) (v := ?_) hHeld rfl (by kernel_rfl) (by kernel_rfl) (by kernel_rfl) ?_ ?_ ?_
       rotate_left
       · rfl
       · (intro x hSx; (try dsimp only at hSx); go_simp <;> with_reducible rfl)
       simp only [Act.put, List.setIfInBounds_toArray, List.set_cons_zero, List.set_cons_succ])
    | (refine h_skip (i := 17) hHeld rfl (by kernel_rfl) (by kernel_rfl) (by kernel_rfl) ?_ ?_
       · rfl
       simp only [Act.put, List.setIfInBounds_toArray, List.set_cons_zero, List.set_cons_succ])
  first
    | (refine h_run (i := 18) (v := ?_) hHeld rfl (by kernel_rfl) (by kernel_rfl) (by kernel_rfl) ?_ ?_ ?_
       rotate_left
       · rfl
       · (intro x hSx; (try dsimp only at hSx); go_simp <;> with_reducible rfl)
       simp only [Act.put, List.setIfInBounds_toArray, List.set_cons_zero, List.set_cons_succ])
    | (refine h_skip (i := 18) hHeld rfl (by kernel_rfl) (by kernel_rfl) (by kernel_rfl) ?_ ?_
       · rfl
       simp only [Act.put, List.setIfInBounds_toArray, List.set_cons_zero, List.set_cons_succ])
  first
    | (refine h_run (i := 19) (v := ?_) hHeld rfl (by kernel_rfl) (by kernel_rfl) (by kernel_rfl) ?_ ?_ ?_
       rotate_left
       · rfl
       · (intro x hSx; (try dsimp only at hSx); go_simp <;> with_reducible rfl)
       simp only [Act.put, List.setIfInBounds_toArray, List.set_cons_zero, List.set_cons_succ])
    | (refine h_skip (i := 19) hHeld rfl (by kernel_rfl) (by kernel_rfl) (by kernel_rfl) ?_ ?_
       · rfl
       simp only [Act.put, List.setIfInBounds_toArray, List.set_cons_zero, List.set_cons_succ])
  clear hHeld
  have hal : Below Z.heap.size Z (y3.alloc (.cells #[.int .u8 1, .int .u8 0, .int .u8 1, .int .u8 1, .int .u8 1, .int .u8 2] 5)) := hY3.out.alloc hY3.out.size _
  refine h_value (i := 20) (v := .slice (some ⟨y3.heap.size, 0, none⟩) 6 6) (w' := y3.alloc (.cells #[.int .u8 1, .int .u8 0, .int .u8 1, .int .u8 1, .int .u8 1, .int .u8 2] 5)) (fun y : World => blk y w2.heap.size = some (.cells #[.int .i64 2, .int .i64 2, .slice (some ⟨g, 0, none⟩) 4 4] 24 (0, 0)) ∧ blk y w3.heap.size = some (.cells #[.int .i64 2, .int .i64 2, .slice (some ⟨h, 0, none⟩) 4 4] 24 (0, 0)) ∧ y.cell? ⟨w4.heap.size, 2, none⟩ = some (.slice (some ⟨q, 0, none⟩) 6 6)) (fun _ h => h) rfl (by kernel_rfl) rfl ?_ (hS.out _ hal) ?_
  · go_simp <;> with_reducible rfl
  refine h_call (i := 21) (fun y : World => blk y w2.heap.size = some (.cells #[.int .i64 2, .int .i64 2, .slice (some ⟨g, 0, none⟩) 4 4] 24 (0, 0)) ∧ blk y w3.heap.size = some (.cells #[.int .i64 2, .int .i64 2, .slice (some ⟨h, 0, none⟩) 4 4] 24 (0, 0)) ∧ y.cell? ⟨w4.heap.size, 2, none⟩ = some (.slice (some ⟨q, 0, none⟩) 6 6)) (fun _ h => h) (r_same (some ⟨q, 0, none⟩) (some ⟨y3.heap.size, 0, none⟩) 6 6 [1, 0, 1, 1, 1, 2] _ (aw_sl (hpwZ.out.below hal)) (aw_lit y3) (by decide)) rfl (by kernel_rfl) rfl ?_ ?_
  · go_simp <;> with_reducible rfl
  rintro e y5 ⟨rfl, nq, rfl⟩
  have hY5 := Lib.hid (below_drewN hal nq)
  refine ⟨_, rfl, hS.out _ hY5.out, ?_⟩
  clear hal
  have hHeld : (fun y : World => blk y w2.heap.size = some (.cells #[.int .i64 2, .int .i64 2, .slice (some ⟨g, 0, none⟩) 4 4] 24 (0, 0)) ∧ blk y w3.heap.size = some (.cells #[.int .i64 2, .int .i64 2, .slice (some ⟨h, 0, none⟩) 4 4] 24 (0, 0)) ∧ y.cell? ⟨w4.heap.size, 2, none⟩ = some (.slice (some ⟨q, 0, none⟩) 6 6)) ((y3.alloc (.cells #[.int .u8 1, .int .u8 0, .int .u8 1, .int .u8 1, .int .u8 1, .int .u8 2] 5)).drewN nq) := hS.out _ hY5.out
  first
    | (refine h_run (i := 22) (v := ?_) hHeld rfl (by kernel_rfl) (by kernel_rfl) (by kernel_rfl) ?_ ?_ ?_
       rotate_left
       · rfl
       · (intro x hSx; (try dsimp only at hSx); go_simp <;> with_reducible rfl)
       simp only [Act.put, List.setIfInBounds_toArray, List.set_cons_zero, List.set_cons_succ])
    | (refine h_skip (i := 22) hHeld rfl (by kernel_rfl) (by kernel_rfl) (by kernel_rfl) ?_ ?_
       · rfl
       simp only [Act.put, List.setIfInBounds_toArray, List.set_cons_zero, List.set_cons_succ])
  first
    | (refine h_run (i := 23) (v := ?_) hHeld rfl (by kernel_rfl) (by kernel_rfl) (by kernel_rfl) ?_ ?_ ?_
       rotate_left
       · rfl
       · (intro x hSx; (try dsimp only at hSx); go_simp <;> with_reducible rfl)
       simp only [Act.put, List.setIfInBounds_toArray, List.set_cons_zero, List.set_cons_succ])
    | (refine h_skip (i := 23) hHeld rfl (by kernel_rfl) (by kernel_rfl) (by kernel_rfl) ?_ ?_
       · rfl
       simp only [Act.put, List.setIfInBounds_toArray, List.set_cons_zero, List.set_cons_succ])
  refine h_done (by kernel_rfl) ?_
  go_wp2_with fail
  go_ret
  exact ⟨rfl, by rw [hpeh.out]; exact hbZ.out.trans (hY5.out.mono (by omega))⟩
end Go.Proofs.Ytkcalgolanpjaaa

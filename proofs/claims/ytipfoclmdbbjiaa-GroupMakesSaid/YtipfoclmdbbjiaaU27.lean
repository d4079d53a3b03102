import Derived.Test.YtipfoclmdbbjiaaU26
import Derived.Deep.QuietTactic
import Derived.StillTailTactics
import Derived.Deep.DeepCutAuto
/- The builder's close. Conditions: the builder's block. -/
namespace Go.Proofs.Ytipfoclmdbbjiaa
open Go.RowKit
set_option maxRecDepth 100000 in
theorem u32_add (a b : Nat) : IntKind.u32.wrap ((a : Int) + (b : Int)) = (((a + b) % 4294967296 : Nat) : Int) := by rw [IntKind.wrap_u32]; omega
attribute [local irreducible] gexp gtbl glog rmul rinv rpow zexp mixF blk wLoad wLoadRes loadAns wStore wStoreRes storeAns Plain flF BRow MRow MAt By IsGf ivS rsF mlF RowsAt paF OwnS SlR dtF inV grD
attribute [local go_sem ↓] ld_g0 sto_g0
attribute [local go_sem] ld_g sto_g loadAns_some storeAns_some gg_size gg_plain blk_alloc_if blk_setRow_if blk_drew_at blk_drewN_at rowPut_some blk_setCell_if cellPut_some
set_option maxRecDepth 100000 in
set_option maxHeartbeats 8000000 in
theorem b_close (bp tb cp base : Nat) (s : GbS) (v : Value) (loss : Int) (w : World) (hb : BAt w bp tb cp base s v) (ok : GbOk s) (h0 : 1 ≤ s.n) :
    Calls Try.prog 29 #[.pointer (some ⟨bp, 0, none⟩), .int .i64 loss] w (GbPost w bp tb cp base v (gbClo s loss) (some (gbGrp s loss))) := by
  have hz := zeroGG
  have htb := tgZ_bd s.n loss s.ct.most
  have hmb := ok.ct.m1
  have hm0 := ok.ct.m0
  have hcok : CtOk (ctNext s.ct (tgZ s.n loss s.ct.most)) := ctNext_ok _ _ ok.ct htb.1 htb.2
  obtain ⟨M, hM⟩ : ∃ M : Nat, (ctNext s.ct (tgZ s.n loss s.ct.most)).now = M := ⟨(ctNext s.ct (tgZ s.n loss s.ct.most)).now.toNat, by have := hcok.n0; omega⟩
  have hM16 : M ≤ 16 := by have := hcok.n1; omega
  have kne := Lib.hid (fun y (h : CtAt y cp s.ct) => s_next cp s.ct s.n loss y h ok.ct htb.1 (by omega))
  have kmk := Lib.hid (fun y (si : Option Addr) (ci : Nat) (h1 : IsGf y tb) (h2 : ZAt y .u16 si s.n (fun j => (s.I j : Nat))) => s_make tb s.n M s.no s.fi s.I si ci y h1 h2 ok.I h0 ok.n hM16)
  have hgrp : Hid (gbGrp s loss = (s.no, s.fi, s.n, M, s.I)) := hide (by unfold gbGrp gbClo; simp only; rw [hM]; rfl)
  have hclo : Hid (gbClo s loss = { s with ct := ctNext s.ct (tgZ s.n loss s.ct.most), no := (s.no + 1) % 4294967296, fi := (s.fi + s.n) % 4294967296, old := 0, n := 0 }) := hide rfl
  obtain ⟨c', hc'⟩ : ∃ c', ctNext s.ct (tgZ s.n loss s.ct.most) = c' := ⟨_, rfl⟩
  rw [hc'] at hM kne hclo
  have hMh := Lib.hid hM
  have hok := Lib.hid ok
  obtain ⟨si, ci, rfl, hzi, _⟩ := hb.own.open
  have hzih := Lib.hid hzi
  have hbh := Lib.hid hb
  have hB0 := below_one w (.cells #[.int .u32 0, .int .u32 0, .int .i64 0, .int .i64 0, .slice none 0 0] 48)
  have b0 := last_block0 w (.cells #[.int .u32 0, .int .u32 0, .int .i64 0, .int .i64 0, .slice none 0 0] 48) _ rfl
  have hn16 := ok.n
  have hno := ok.no
  have hfi := ok.fi
  clear htb hmb hm0 hcok hM hc' ok hb hzi
  obtain ⟨ct, size, age, no, fi, old, n, I⟩ := s
  simp only at *
  go_enter Try.func29, Try.ntmps29
  go_upto_region 1 with (fail)
  generalize World.alloc w _ = X at *
  have hbX := Lib.hid (hbh.out.below hB0)
  have hwX : w.heap.size < X.heap.size := (Array.getElem?_eq_some_iff.1 b0).1
  have b0h := Lib.hid b0
  have hB0h := Lib.hid hB0
  clear b0 hB0
  have hcell : Hid (∀ y i u, X.grownBy y (some cp) → (gbA tb cp ⟨ct, size, age, no, fi, old, n, I⟩ (.slice si n ci))[i]? = some u → y.cell? ⟨bp, i, none⟩ = some u) := hide (fun y i u hy hu => by
    rw [cell_of_block ((hy.block bp hbX.out.lt (fun e => hbX.out.ne_cp (by injection e))).trans hbX.out.b)]
    exact hu)
  go_cut [6, 7] (fun v6 v7 wx => ∃ (q : Nat) (sd : Option Addr) (cap : Nat), v6 = .pointer (some ⟨q, 0, none⟩) ∧ v7 = .int .i64 0 ∧ Hid (wx.heap[q]? = some (.cells #[.int .u32 (no : Nat), .int .u32 (fi : Nat), .int .i64 (n : Nat), .int .i64 (M : Nat), .slice sd (n + M) cap] 48 (0, 0))) ∧ Hid (OwnS wx X.heap.size (.slice sd (n + M) cap) (n + M) 2 (grD n I)) ∧ Hid (X.grownBy wx (some cp)) ∧ Hid (CtAt wx cp c') ∧ X.heap.size ≤ q)
  case first =>
    have hS : Hid (∀ y, X.grownBy y (some cp) → (fun y : World => y.cell? ⟨bp, 0, none⟩ = some (.pointer (some ⟨tb, 0, none⟩)) ∧ y.cell? ⟨bp, 1, none⟩ = some (.pointer (some ⟨cp, 0, none⟩)) ∧ y.cell? ⟨bp, 4, none⟩ = some (.int .u32 (no : Nat)) ∧ y.cell? ⟨bp, 5, none⟩ = some (.int .u32 (fi : Nat)) ∧ y.cell? ⟨bp, 7, none⟩ = some (.slice si n ci)) y) := hide (fun y hy => ⟨hcell.out y 0 _ hy rfl, hcell.out y 1 _ hy rfl, hcell.out y 4 _ hy rfl, hcell.out y 5 _ hy rfl, hcell.out y 7 _ hy rfl⟩)
    have hBd : Hid (Below X.heap.size X X.drew) := hide (below_drewN (Below.refl _ _) 1)
    have hHeld : (fun y : World => y.cell? ⟨bp, 0, none⟩ = some (.pointer (some ⟨tb, 0, none⟩)) ∧ y.cell? ⟨bp, 1, none⟩ = some (.pointer (some ⟨cp, 0, none⟩)) ∧ y.cell? ⟨bp, 4, none⟩ = some (.int .u32 (no : Nat)) ∧ y.cell? ⟨bp, 5, none⟩ = some (.int .u32 (fi : Nat)) ∧ y.cell? ⟨bp, 7, none⟩ = some (.slice si n ci)) X.drew := hS.out _ (only_of_below hBd.out _)
    refine h_begin 34 (fun y : World => y.cell? ⟨bp, 0, none⟩ = some (.pointer (some ⟨tb, 0, none⟩)) ∧ y.cell? ⟨bp, 1, none⟩ = some (.pointer (some ⟨cp, 0, none⟩)) ∧ y.cell? ⟨bp, 4, none⟩ = some (.int .u32 (no : Nat)) ∧ y.cell? ⟨bp, 5, none⟩ = some (.int .u32 (fi : Nat)) ∧ y.cell? ⟨bp, 7, none⟩ = some (.slice si n ci)) rfl (by kernel_rfl) hHeld ?_
    first
      | (refine h_run (i := 0) (v := ?_) hHeld rfl (by kernel_rfl) (by kernel_rfl) (by kernel_rfl) ?_ ?_ ?_
         rotate_left
         · rfl
         · (intro x hSx; (try dsimp only at hSx); go_simp <;> with_reducible rfl)
         simp only [Act.put, List.setIfInBounds_toArray, List.set_cons_zero, List.set_cons_succ])
      | (refine h_skip (i := 0) hHeld rfl (by kernel_rfl) (by kernel_rfl) (by kernel_rfl) ?_ ?_
         · rfl
         simp only [Act.put, List.setIfInBounds_toArray, List.set_cons_zero, List.set_cons_succ])
    first
      | (refine h_run (i := 1) (v := ?_) hHeld rfl (by kernel_rfl) (by kernel_rfl) (by kernel_rfl) ?_ ?_ ?_
         rotate_left
         · rfl
         · (intro x hSx; (try dsimp only at hSx); go_simp <;> with_reducible rfl)
         simp only [Act.put, List.setIfInBounds_toArray, List.set_cons_zero, List.set_cons_succ])
      | (refine h_skip (i := 1) hHeld rfl (by kernel_rfl) (by kernel_rfl) (by kernel_rfl) ?_ ?_
         · rfl
         simp only [Act.put, List.setIfInBounds_toArray, List.set_cons_zero, List.set_cons_succ])
    first
      | (refine h_run (i := 2) (v := ?_) hHeld rfl (by kernel_rfl) (by kernel_rfl) (by kernel_rfl) ?_ ?_ ?_
         rotate_left
         · rfl
         · (intro x hSx; (try dsimp only at hSx); go_simp <;> with_reducible rfl)
         simp only [Act.put, List.setIfInBounds_toArray, List.set_cons_zero, List.set_cons_succ])
      | (refine h_skip (i := 2) hHeld rfl (by kernel_rfl) (by kernel_rfl) (by kernel_rfl) ?_ ?_
         · rfl
         simp only [Act.put, List.setIfInBounds_toArray, List.set_cons_zero, List.set_cons_succ])
    first
      | (refine h_run (i := 3) (v := ?_) hHeld rfl (by kernel_rfl) (by kernel_rfl) (by kernel_rfl) ?_ ?_ ?_
         rotate_left
         · rfl
         · (intro x hSx; (try dsimp only at hSx); go_simp <;> with_reducible rfl)
         simp only [Act.put, List.setIfInBounds_toArray, List.set_cons_zero, List.set_cons_succ])
      | (refine h_skip (i := 3) hHeld rfl (by kernel_rfl) (by kernel_rfl) (by kernel_rfl) ?_ ?_
         · rfl
         simp only [Act.put, List.setIfInBounds_toArray, List.set_cons_zero, List.set_cons_succ])
    first
      | (refine h_run (i := 4) (v := ?_) hHeld rfl (by kernel_rfl) (by kernel_rfl) (by kernel_rfl) ?_ ?_ ?_
         rotate_left
         · rfl
         · (intro x hSx; (try dsimp only at hSx); go_simp <;> with_reducible rfl)
         simp only [Act.put, List.setIfInBounds_toArray, List.set_cons_zero, List.set_cons_succ])
      | (refine h_skip (i := 4) hHeld rfl (by kernel_rfl) (by kernel_rfl) (by kernel_rfl) ?_ ?_
         · rfl
         simp only [Act.put, List.setIfInBounds_toArray, List.set_cons_zero, List.set_cons_succ])
    first
      | (refine h_run (i := 5) (v := ?_) hHeld rfl (by kernel_rfl) (by kernel_rfl) (by kernel_rfl) ?_ ?_ ?_
         rotate_left
         · rfl
         · (intro x hSx; (try dsimp only at hSx); go_simp <;> with_reducible rfl)
         simp only [Act.put, List.setIfInBounds_toArray, List.set_cons_zero, List.set_cons_succ])
      | (refine h_skip (i := 5) hHeld rfl (by kernel_rfl) (by kernel_rfl) (by kernel_rfl) ?_ ?_
         · rfl
         simp only [Act.put, List.setIfInBounds_toArray, List.set_cons_zero, List.set_cons_succ])
    first
      | (refine h_run (i := 6) (v := ?_) hHeld rfl (by kernel_rfl) (by kernel_rfl) (by kernel_rfl) ?_ ?_ ?_
         rotate_left
         · rfl
         · (intro x hSx; (try dsimp only at hSx); go_simp <;> with_reducible rfl)
         simp only [Act.put, List.setIfInBounds_toArray, List.set_cons_zero, List.set_cons_succ])
      | (refine h_skip (i := 6) hHeld rfl (by kernel_rfl) (by kernel_rfl) (by kernel_rfl) ?_ ?_
         · rfl
         simp only [Act.put, List.setIfInBounds_toArray, List.set_cons_zero, List.set_cons_succ])
    first
      | (refine h_run (i := 7) (v := ?_) hHeld rfl (by kernel_rfl) (by kernel_rfl) (by kernel_rfl) ?_ ?_ ?_
         rotate_left
         · rfl
         · (intro x hSx; (try dsimp only at hSx); go_simp <;> with_reducible rfl)
         simp only [Act.put, List.setIfInBounds_toArray, List.set_cons_zero, List.set_cons_succ])
      | (refine h_skip (i := 7) hHeld rfl (by kernel_rfl) (by kernel_rfl) (by kernel_rfl) ?_ ?_
         · rfl
         simp only [Act.put, List.setIfInBounds_toArray, List.set_cons_zero, List.set_cons_succ])
    first
      | (refine h_run (i := 8) (v := ?_) hHeld rfl (by kernel_rfl) (by kernel_rfl) (by kernel_rfl) ?_ ?_ ?_
         rotate_left
         · rfl
         · (intro x hSx; (try dsimp only at hSx); go_simp <;> with_reducible rfl)
         simp only [Act.put, List.setIfInBounds_toArray, List.set_cons_zero, List.set_cons_succ])
      | (refine h_skip (i := 8) hHeld rfl (by kernel_rfl) (by kernel_rfl) (by kernel_rfl) ?_ ?_
         · rfl
         simp only [Act.put, List.setIfInBounds_toArray, List.set_cons_zero, List.set_cons_succ])
    first
      | (refine h_run (i := 9) (v := ?_) hHeld rfl (by kernel_rfl) (by kernel_rfl) (by kernel_rfl) ?_ ?_ ?_
         rotate_left
         · rfl
         · (intro x hSx; (try dsimp only at hSx); go_simp <;> with_reducible rfl)
         simp only [Act.put, List.setIfInBounds_toArray, List.set_cons_zero, List.set_cons_succ])
      | (refine h_skip (i := 9) hHeld rfl (by kernel_rfl) (by kernel_rfl) (by kernel_rfl) ?_ ?_
         · rfl
         simp only [Act.put, List.setIfInBounds_toArray, List.set_cons_zero, List.set_cons_succ])
    first
      | (refine h_run (i := 10) (v := ?_) hHeld rfl (by kernel_rfl) (by kernel_rfl) (by kernel_rfl) ?_ ?_ ?_
         rotate_left
         · rfl
         · (intro x hSx; (try dsimp only at hSx); go_simp <;> with_reducible rfl)
         simp only [Act.put, List.setIfInBounds_toArray, List.set_cons_zero, List.set_cons_succ])
      | (refine h_skip (i := 10) hHeld rfl (by kernel_rfl) (by kernel_rfl) (by kernel_rfl) ?_ ?_
         · rfl
         simp only [Act.put, List.setIfInBounds_toArray, List.set_cons_zero, List.set_cons_succ])
    first
      | (refine h_run (i := 11) (v := ?_) hHeld rfl (by kernel_rfl) (by kernel_rfl) (by kernel_rfl) ?_ ?_ ?_
         rotate_left
         · rfl
         · (intro x hSx; (try dsimp only at hSx); go_simp <;> with_reducible rfl)
         simp only [Act.put, List.setIfInBounds_toArray, List.set_cons_zero, List.set_cons_succ])
      | (refine h_skip (i := 11) hHeld rfl (by kernel_rfl) (by kernel_rfl) (by kernel_rfl) ?_ ?_
         · rfl
         simp only [Act.put, List.setIfInBounds_toArray, List.set_cons_zero, List.set_cons_succ])
    first
      | (refine h_run (i := 12) (v := ?_) hHeld rfl (by kernel_rfl) (by kernel_rfl) (by kernel_rfl) ?_ ?_ ?_
         rotate_left
         · rfl
         · (intro x hSx; (try dsimp only at hSx); go_simp <;> with_reducible rfl)
         simp only [Act.put, List.setIfInBounds_toArray, List.set_cons_zero, List.set_cons_succ])
      | (refine h_skip (i := 12) hHeld rfl (by kernel_rfl) (by kernel_rfl) (by kernel_rfl) ?_ ?_
         · rfl
         simp only [Act.put, List.setIfInBounds_toArray, List.set_cons_zero, List.set_cons_succ])
    first
      | (refine h_run (i := 13) (v := ?_) hHeld rfl (by kernel_rfl) (by kernel_rfl) (by kernel_rfl) ?_ ?_ ?_
         rotate_left
         · rfl
         · (intro x hSx; (try dsimp only at hSx); go_simp <;> with_reducible rfl)
         simp only [Act.put, List.setIfInBounds_toArray, List.set_cons_zero, List.set_cons_succ])
      | (refine h_skip (i := 13) hHeld rfl (by kernel_rfl) (by kernel_rfl) (by kernel_rfl) ?_ ?_
         · rfl
         simp only [Act.put, List.setIfInBounds_toArray, List.set_cons_zero, List.set_cons_succ])
    first
      | (refine h_run (i := 14) (v := ?_) hHeld rfl (by kernel_rfl) (by kernel_rfl) (by kernel_rfl) ?_ ?_ ?_
         rotate_left
         · rfl
         · (intro x hSx; (try dsimp only at hSx); go_simp <;> with_reducible rfl)
         simp only [Act.put, List.setIfInBounds_toArray, List.set_cons_zero, List.set_cons_succ])
      | (refine h_skip (i := 14) hHeld rfl (by kernel_rfl) (by kernel_rfl) (by kernel_rfl) ?_ ?_
         · rfl
         simp only [Act.put, List.setIfInBounds_toArray, List.set_cons_zero, List.set_cons_succ])
    first
      | (refine h_run (i := 15) (v := ?_) hHeld rfl (by kernel_rfl) (by kernel_rfl) (by kernel_rfl) ?_ ?_ ?_
         rotate_left
         · rfl
         · (intro x hSx; (try dsimp only at hSx); go_simp <;> with_reducible rfl)
         simp only [Act.put, List.setIfInBounds_toArray, List.set_cons_zero, List.set_cons_succ])
      | (refine h_skip (i := 15) hHeld rfl (by kernel_rfl) (by kernel_rfl) (by kernel_rfl) ?_ ?_
         · rfl
         simp only [Act.put, List.setIfInBounds_toArray, List.set_cons_zero, List.set_cons_succ])
    first
      | (refine h_run (i := 16) (v := ?_) hHeld rfl (by kernel_rfl) (by kernel_rfl) (by kernel_rfl) ?_ ?_ ?_
         rotate_left
         · rfl
         · (intro x hSx; (try dsimp only at hSx); go_simp <;> with_reducible rfl)
         simp only [Act.put, List.setIfInBounds_toArray, List.set_cons_zero, List.set_cons_succ])
      | (refine h_skip (i := 16) hHeld rfl (by kernel_rfl) (by kernel_rfl) (by kernel_rfl) ?_ ?_
         · rfl
         simp only [Act.put, List.setIfInBounds_toArray, List.set_cons_zero, List.set_cons_succ])
    first
      | (refine h_run (i := 17) (v := ?_) hHeld rfl (by kernel_rfl) (by kernel_rfl) (by kernel_rfl) ?_ ?_ ?_
         rotate_left
         · rfl
         · (intro x hSx; (try dsimp only at hSx); go_simp <;> with_reducible rfl)
         simp only [Act.put, List.setIfInBounds_toArray, List.set_cons_zero, List.set_cons_succ])
      | (refine h_skip (i := 17) hHeld rfl (by kernel_rfl) (by kernel_rfl) (by kernel_rfl) ?_ ?_
         · rfl
         simp only [Act.put, List.setIfInBounds_toArray, List.set_cons_zero, List.set_cons_succ])
    first
      | (refine h_run (i := 18) (v := ?_) hHeld rfl (by kernel_rfl) (by kernel_rfl) (by kernel_rfl) ?_ ?_ ?_
         rotate_left
         · rfl
         · (intro x hSx; (try dsimp only at hSx); go_simp <;> with_reducible rfl)
         simp only [Act.put, List.setIfInBounds_toArray, List.set_cons_zero, List.set_cons_succ])
      | (refine h_skip (i := 18) hHeld rfl (by kernel_rfl) (by kernel_rfl) (by kernel_rfl) ?_ ?_
         · rfl
         simp only [Act.put, List.setIfInBounds_toArray, List.set_cons_zero, List.set_cons_succ])
    first
      | (refine h_run (i := 19) (v := ?_) hHeld rfl (by kernel_rfl) (by kernel_rfl) (by kernel_rfl) ?_ ?_ ?_
         rotate_left
         · rfl
         · (intro x hSx; (try dsimp only at hSx); go_simp <;> with_reducible rfl)
         simp only [Act.put, List.setIfInBounds_toArray, List.set_cons_zero, List.set_cons_succ])
      | (refine h_skip (i := 19) hHeld rfl (by kernel_rfl) (by kernel_rfl) (by kernel_rfl) ?_ ?_
         · rfl
         simp only [Act.put, List.setIfInBounds_toArray, List.set_cons_zero, List.set_cons_succ])
    first
      | (refine h_run (i := 20) (v := ?_) hHeld rfl (by kernel_rfl) (by kernel_rfl) (by kernel_rfl) ?_ ?_ ?_
         rotate_left
         · rfl
         · (intro x hSx; (try dsimp only at hSx); go_simp <;> with_reducible rfl)
         simp only [Act.put, List.setIfInBounds_toArray, List.set_cons_zero, List.set_cons_succ])
      | (refine h_skip (i := 20) hHeld rfl (by kernel_rfl) (by kernel_rfl) (by kernel_rfl) ?_ ?_
         · rfl
         simp only [Act.put, List.setIfInBounds_toArray, List.set_cons_zero, List.set_cons_succ])
    first
      | (refine h_run (i := 21) (v := ?_) hHeld rfl (by kernel_rfl) (by kernel_rfl) (by kernel_rfl) ?_ ?_ ?_
         rotate_left
         · rfl
         · (intro x hSx; (try dsimp only at hSx); go_simp <;> with_reducible rfl)
         simp only [Act.put, List.setIfInBounds_toArray, List.set_cons_zero, List.set_cons_succ])
      | (refine h_skip (i := 21) hHeld rfl (by kernel_rfl) (by kernel_rfl) (by kernel_rfl) ?_ ?_
         · rfl
         simp only [Act.put, List.setIfInBounds_toArray, List.set_cons_zero, List.set_cons_succ])
    first
      | (refine h_run (i := 23) (v := ?_) hHeld rfl (by kernel_rfl) (by kernel_rfl) (by kernel_rfl) ?_ ?_ ?_
         rotate_left
         · rfl
         · (intro x hSx; (try dsimp only at hSx); go_simp <;> with_reducible rfl)
         simp only [Act.put, List.setIfInBounds_toArray, List.set_cons_zero, List.set_cons_succ])
      | (refine h_skip (i := 23) hHeld rfl (by kernel_rfl) (by kernel_rfl) (by kernel_rfl) ?_ ?_
         · rfl
         simp only [Act.put, List.setIfInBounds_toArray, List.set_cons_zero, List.set_cons_succ])
    first
      | (refine h_run (i := 24) (v := ?_) hHeld rfl (by kernel_rfl) (by kernel_rfl) (by kernel_rfl) ?_ ?_ ?_
         rotate_left
         · rfl
         · (intro x hSx; (try dsimp only at hSx); go_simp <;> with_reducible rfl)
         simp only [Act.put, List.setIfInBounds_toArray, List.set_cons_zero, List.set_cons_succ])
      | (refine h_skip (i := 24) hHeld rfl (by kernel_rfl) (by kernel_rfl) (by kernel_rfl) ?_ ?_
         · rfl
         simp only [Act.put, List.setIfInBounds_toArray, List.set_cons_zero, List.set_cons_succ])
    first
      | (refine h_run (i := 25) (v := ?_) hHeld rfl (by kernel_rfl) (by kernel_rfl) (by kernel_rfl) ?_ ?_ ?_
         rotate_left
         · rfl
         · (intro x hSx; (try dsimp only at hSx); go_simp <;> with_reducible rfl)
         simp only [Act.put, List.setIfInBounds_toArray, List.set_cons_zero, List.set_cons_succ])
      | (refine h_skip (i := 25) hHeld rfl (by kernel_rfl) (by kernel_rfl) (by kernel_rfl) ?_ ?_
         · rfl
         simp only [Act.put, List.setIfInBounds_toArray, List.set_cons_zero, List.set_cons_succ])
    first
      | (refine h_run (i := 26) (v := ?_) hHeld rfl (by kernel_rfl) (by kernel_rfl) (by kernel_rfl) ?_ ?_ ?_
         rotate_left
         · rfl
         · (intro x hSx; (try dsimp only at hSx); go_simp <;> with_reducible rfl)
         simp only [Act.put, List.setIfInBounds_toArray, List.set_cons_zero, List.set_cons_succ])
      | (refine h_skip (i := 26) hHeld rfl (by kernel_rfl) (by kernel_rfl) (by kernel_rfl) ?_ ?_
         · rfl
         simp only [Act.put, List.setIfInBounds_toArray, List.set_cons_zero, List.set_cons_succ])
    clear hHeld
    refine h_alloc2 (i := 31) (j := 22) (k := 27) (fj := 40) (fk := 21) (aj := #[.pointer (some ⟨cp, 0, none⟩), .int .i64 (n : Nat), .int .i64 loss]) (fun u => #[.pointer (some ⟨tb, 0, none⟩), .int .u32 (no : Nat), .int .u32 (fi : Nat), u, .slice si n ci]) (.cells #[.int .u32 0, .int .u32 0, .int .i64 0, .int .i64 0, .slice none 0 0] 48) X.heap.size (fun y => Below X.heap.size X y) (fun y => X.grownBy y (some cp) ∧ CtAt y cp c')
      (fun u y => u = .int .i64 (M : Nat)) (fun u y => ∃ (sd : Option Addr) (cap : Nat), u = .tuple #[.agg #[.int .u32 (no : Nat), .int .u32 (fi : Nat), .int .i64 (n : Nat), .int .i64 (M : Nat), .slice sd (n + M) cap], .int .i64 0] ∧ OwnS y X.heap.size (.slice sd (n + M) cap) (n + M) 2 (grD n I)) [22, 31] [27, 31]
      hBd.out (fun y hy => hS.out y (only_of_below hy _)) (fun y hy => hy.size) (fun y hy => hy.alloc hy.size _) (fun y hy => hS.out y hy.1) (fun y hy => hy.1.size) (fun y hy => ⟨only_alloc hy.1 _, (Below.heap_alloc y _ cp hy.2.lt).trans hy.2⟩) (fun u y hy hu => hu) (fun u y hy hu => ?_) (fun y hy => ?_) (fun y u hy hu => ?_) rfl rfl rfl (by kernel_rfl) (by decide) (by kernel_rfl) (by kernel_rfl) (by kernel_rfl) (by decide) (by kernel_rfl) (fun _ => rfl) (fun _ => rfl) (fun _ => rfl) (fun b y => ?_) (fun y => ?_) (fun y p => ?_) (fun y v => ?_) (fun y v p => ?_) (fun y v p => ?_) rfl (fun _ _ _ => rfl) ?_ ?_
    · obtain ⟨sd, cap, h1, h2⟩ := hu
      exact ⟨sd, cap, h1, h2.below (below_one y _)⟩
    · refine (kne.out y ((hbX.out.below hy).ct)).mono ?_
      rintro e y1 ⟨rfl, h1, h2⟩
      exact ⟨_, rfl, ⟨only_trans (only_of_below hy _) h2, h1⟩, by rw [hMh.out], fun q hq1 hq2 => h2.block q hq2 (fun e => by have := hbX.out.ct.lt; injection e with e; omega)⟩
    · subst hu
      have hg : IsGf y tb := IsGf.kept hbX.out.gf hy.1 hbX.out.ne_tc
      have ho : OwnZ y base 39 .u16 (.slice si n ci) n (fun j => (I j : Nat)) := hbX.out.own.kept2 hy.1 (.inr (fun e => hbX.out.own_ne hbX.out.ct (by decide) e))
      obtain ⟨s2, c2, he, hz2, _⟩ := ho.open
      injection he with he1 he2 he3
      subst he1
      refine (kmk.out y si ci hg hz2).mono ?_
      rintro e y1 ⟨sd, cap, rfl, h1, h2⟩
      exact ⟨_, rfl, ⟨only_trans hy.1 (only_of_below h2 _), (h2.block cp hy.2.lt).trans hy.2⟩, ⟨sd, cap, rfl, h1.base hy.1.size⟩, fun q _ hq => h2.block q hq⟩
    · go_simp <;> with_reducible rfl
    · go_simp <;> with_reducible rfl
    · go_simp <;> with_reducible rfl
    · go_simp <;> with_reducible rfl
    · go_simp <;> with_reducible rfl
    · go_simp <;> with_reducible rfl
    · intro y q v u hy hu hq hBq
      obtain ⟨sd, cap, rfl, hos⟩ := hu
      simp only [Act.put, List.setIfInBounds_toArray, List.set_cons_zero, List.set_cons_succ]
      have hHeld : (fun y : World => y.cell? ⟨bp, 0, none⟩ = some (.pointer (some ⟨tb, 0, none⟩)) ∧ y.cell? ⟨bp, 1, none⟩ = some (.pointer (some ⟨cp, 0, none⟩)) ∧ y.cell? ⟨bp, 4, none⟩ = some (.int .u32 (no : Nat)) ∧ y.cell? ⟨bp, 5, none⟩ = some (.int .u32 (fi : Nat)) ∧ y.cell? ⟨bp, 7, none⟩ = some (.slice si n ci)) y := hS.out _ hy.1
      first
        | (refine h_run (i := 28) (v := ?_) hHeld rfl (by kernel_rfl) (by kernel_rfl) (by kernel_rfl) ?_ ?_ ?_
           rotate_left
           · rfl
           · (intro x hSx; (try dsimp only at hSx); go_simp <;> with_reducible rfl)
           simp only [Act.put, List.setIfInBounds_toArray, List.set_cons_zero, List.set_cons_succ])
        | (refine h_skip (i := 28) hHeld rfl (by kernel_rfl) (by kernel_rfl) (by kernel_rfl) ?_ ?_
           · rfl
           simp only [Act.put, List.setIfInBounds_toArray, List.set_cons_zero, List.set_cons_succ])
      first
        | (refine h_run (i := 29) (v := ?_) hHeld rfl (by kernel_rfl) (by kernel_rfl) (by kernel_rfl) ?_ ?_ ?_
           rotate_left
           · rfl
           · (intro x hSx; (try dsimp only at hSx); go_simp <;> with_reducible rfl)
           simp only [Act.put, List.setIfInBounds_toArray, List.set_cons_zero, List.set_cons_succ])
        | (refine h_skip (i := 29) hHeld rfl (by kernel_rfl) (by kernel_rfl) (by kernel_rfl) ?_ ?_
           · rfl
           simp only [Act.put, List.setIfInBounds_toArray, List.set_cons_zero, List.set_cons_succ])
      first
        | (refine h_run (i := 30) (v := ?_) hHeld rfl (by kernel_rfl) (by kernel_rfl) (by kernel_rfl) ?_ ?_ ?_
           rotate_left
           · rfl
           · (intro x hSx; (try dsimp only at hSx); go_simp <;> with_reducible rfl)
           simp only [Act.put, List.setIfInBounds_toArray, List.set_cons_zero, List.set_cons_succ])
        | (refine h_skip (i := 30) hHeld rfl (by kernel_rfl) (by kernel_rfl) (by kernel_rfl) ?_ ?_
           · rfl
           simp only [Act.put, List.setIfInBounds_toArray, List.set_cons_zero, List.set_cons_succ])
      clear hHeld
      have bq := blk_of hq
      have hyz : X.grownBy (y.setRow q #[.int .u32 (no : Nat), .int .u32 (fi : Nat), .int .i64 (n : Nat), .int .i64 (M : Nat), .slice sd (n + M) cap]) (some cp) := only_setRow hy.1 (.inr hBq) _
      have hqz := Lib.hid (setRow_heap y q _ #[.int .u32 (no : Nat), .int .u32 (fi : Nat), .int .i64 (n : Nat), .int .i64 (M : Nat), .slice sd (n + M) cap] 48 (0, 0) hq)
      have hoz : Hid (OwnS (y.setRow q #[.int .u32 (no : Nat), .int .u32 (fi : Nat), .int .i64 (n : Nat), .int .i64 (M : Nat), .slice sd (n + M) cap]) X.heap.size (.slice sd (n + M) cap) (n + M) 2 (grD n I)) := hide (own_setG hos hq (by decide) (by decide) _)
      have hcz : Hid (CtAt (y.setRow q #[.int .u32 (no : Nat), .int .u32 (fi : Nat), .int .i64 (n : Nat), .int .i64 (M : Nat), .slice sd (n + M) cap]) cp c') := hide ((setRow_other y q cp _ (ty_ne hy.2 hq (by decide))).trans hy.2)
      have hyzh := Lib.hid hyz
      clear hq hos hyz
      refine h_write (i := 32) (w' := y.setRow q #[.int .u32 (no : Nat), .int .u32 (fi : Nat), .int .i64 (n : Nat), .int .i64 (M : Nat), .slice sd (n + M) cap]) (fun y : World => y.cell? ⟨bp, 0, none⟩ = some (.pointer (some ⟨tb, 0, none⟩)) ∧ y.cell? ⟨bp, 1, none⟩ = some (.pointer (some ⟨cp, 0, none⟩)) ∧ y.cell? ⟨bp, 4, none⟩ = some (.int .u32 (no : Nat)) ∧ y.cell? ⟨bp, 5, none⟩ = some (.int .u32 (fi : Nat)) ∧ y.cell? ⟨bp, 7, none⟩ = some (.slice si n ci)) (fun _ h => h) rfl (by kernel_rfl) rfl ?_ (hS.out _ hyzh.out) ?_
      · go_simp <;> with_reducible rfl
      have hHeld : (fun y : World => y.cell? ⟨bp, 0, none⟩ = some (.pointer (some ⟨tb, 0, none⟩)) ∧ y.cell? ⟨bp, 1, none⟩ = some (.pointer (some ⟨cp, 0, none⟩)) ∧ y.cell? ⟨bp, 4, none⟩ = some (.int .u32 (no : Nat)) ∧ y.cell? ⟨bp, 5, none⟩ = some (.int .u32 (fi : Nat)) ∧ y.cell? ⟨bp, 7, none⟩ = some (.slice si n ci)) (y.setRow q #[.int .u32 (no : Nat), .int .u32 (fi : Nat), .int .i64 (n : Nat), .int .i64 (M : Nat), .slice sd (n + M) cap]) := hS.out _ hyzh.out
      first
        | (refine h_run (i := 33) (v := ?_) hHeld rfl (by kernel_rfl) (by kernel_rfl) (by kernel_rfl) ?_ ?_ ?_
           rotate_left
           · rfl
           · (intro x hSx; (try dsimp only at hSx); go_simp <;> with_reducible rfl)
           simp only [Act.put, List.setIfInBounds_toArray, List.set_cons_zero, List.set_cons_succ])
        | (refine h_skip (i := 33) hHeld rfl (by kernel_rfl) (by kernel_rfl) (by kernel_rfl) ?_ ?_
           · rfl
           simp only [Act.put, List.setIfInBounds_toArray, List.set_cons_zero, List.set_cons_succ])
      clear hHeld bq
      refine h_done (by kernel_rfl) ?_
      go_wp2_with fail
      go_meet
      exact ⟨q, sd, cap, rfl, rfl, hqz, hoz, hyzh, hcz, hBq⟩
    · intro y v u hy hu
      obtain ⟨sd, cap, rfl, hos0⟩ := hu
      simp only [Act.put, List.setIfInBounds_toArray, List.set_cons_zero, List.set_cons_succ]
      have hHeld : (fun y : World => y.cell? ⟨bp, 0, none⟩ = some (.pointer (some ⟨tb, 0, none⟩)) ∧ y.cell? ⟨bp, 1, none⟩ = some (.pointer (some ⟨cp, 0, none⟩)) ∧ y.cell? ⟨bp, 4, none⟩ = some (.int .u32 (no : Nat)) ∧ y.cell? ⟨bp, 5, none⟩ = some (.int .u32 (fi : Nat)) ∧ y.cell? ⟨bp, 7, none⟩ = some (.slice si n ci)) y := hS.out _ hy.1
      first
        | (refine h_run (i := 28) (v := ?_) hHeld rfl (by kernel_rfl) (by kernel_rfl) (by kernel_rfl) ?_ ?_ ?_
           rotate_left
           · rfl
           · (intro x hSx; (try dsimp only at hSx); go_simp <;> with_reducible rfl)
           simp only [Act.put, List.setIfInBounds_toArray, List.set_cons_zero, List.set_cons_succ])
        | (refine h_skip (i := 28) hHeld rfl (by kernel_rfl) (by kernel_rfl) (by kernel_rfl) ?_ ?_
           · rfl
           simp only [Act.put, List.setIfInBounds_toArray, List.set_cons_zero, List.set_cons_succ])
      first
        | (refine h_run (i := 29) (v := ?_) hHeld rfl (by kernel_rfl) (by kernel_rfl) (by kernel_rfl) ?_ ?_ ?_
           rotate_left
           · rfl
           · (intro x hSx; (try dsimp only at hSx); go_simp <;> with_reducible rfl)
           simp only [Act.put, List.setIfInBounds_toArray, List.set_cons_zero, List.set_cons_succ])
        | (refine h_skip (i := 29) hHeld rfl (by kernel_rfl) (by kernel_rfl) (by kernel_rfl) ?_ ?_
           · rfl
           simp only [Act.put, List.setIfInBounds_toArray, List.set_cons_zero, List.set_cons_succ])
      first
        | (refine h_run (i := 30) (v := ?_) hHeld rfl (by kernel_rfl) (by kernel_rfl) (by kernel_rfl) ?_ ?_ ?_
           rotate_left
           · rfl
           · (intro x hSx; (try dsimp only at hSx); go_simp <;> with_reducible rfl)
           simp only [Act.put, List.setIfInBounds_toArray, List.set_cons_zero, List.set_cons_succ])
        | (refine h_skip (i := 30) hHeld rfl (by kernel_rfl) (by kernel_rfl) (by kernel_rfl) ?_ ?_
           · rfl
           simp only [Act.put, List.setIfInBounds_toArray, List.set_cons_zero, List.set_cons_succ])
      clear hHeld
      have hT1 : X.grownBy (y.alloc (.cells #[.int .u32 0, .int .u32 0, .int .i64 0, .int .i64 0, .slice none 0 0] 48)) (some cp) ∧ CtAt (y.alloc (.cells #[.int .u32 0, .int .u32 0, .int .i64 0, .int .i64 0, .slice none 0 0] 48)) cp c' := ⟨only_alloc hy.1 _, (Below.heap_alloc y _ cp hy.2.lt).trans hy.2⟩
      have hos := hos0.below (below_one y (.cells #[.int .u32 0, .int .u32 0, .int .i64 0, .int .i64 0, .slice none 0 0] 48))
      have hT1h := Lib.hid hT1
      have hosh := Lib.hid hos
      refine h_value (i := 31) (v := .pointer (some ⟨y.heap.size, 0, none⟩)) (w' := y.alloc (.cells #[.int .u32 0, .int .u32 0, .int .i64 0, .int .i64 0, .slice none 0 0] 48)) (fun y : World => y.cell? ⟨bp, 0, none⟩ = some (.pointer (some ⟨tb, 0, none⟩)) ∧ y.cell? ⟨bp, 1, none⟩ = some (.pointer (some ⟨cp, 0, none⟩)) ∧ y.cell? ⟨bp, 4, none⟩ = some (.int .u32 (no : Nat)) ∧ y.cell? ⟨bp, 5, none⟩ = some (.int .u32 (fi : Nat)) ∧ y.cell? ⟨bp, 7, none⟩ = some (.slice si n ci)) (fun _ h => h) rfl (by kernel_rfl) rfl ?_ (hS.out _ hT1h.out.1) ?_
      · go_simp <;> with_reducible rfl
      have hq := last_block0 y (.cells #[.int .u32 0, .int .u32 0, .int .i64 0, .int .i64 0, .slice none 0 0] 48) _ rfl
      have hBq := hy.1.size
      clear hos0 hos hT1 hy
      generalize hqe : y.heap.size = q at *
      generalize World.alloc y _ = y at *
      have hy := hT1h.out
      have hos := hosh.out
      simp only [Act.put, List.setIfInBounds_toArray, List.set_cons_zero, List.set_cons_succ]
      have bq := blk_of hq
      have hyz : X.grownBy (y.setRow q #[.int .u32 (no : Nat), .int .u32 (fi : Nat), .int .i64 (n : Nat), .int .i64 (M : Nat), .slice sd (n + M) cap]) (some cp) := only_setRow hy.1 (.inr hBq) _
      have hqz := Lib.hid (setRow_heap y q _ #[.int .u32 (no : Nat), .int .u32 (fi : Nat), .int .i64 (n : Nat), .int .i64 (M : Nat), .slice sd (n + M) cap] 48 (0, 0) hq)
      have hoz : Hid (OwnS (y.setRow q #[.int .u32 (no : Nat), .int .u32 (fi : Nat), .int .i64 (n : Nat), .int .i64 (M : Nat), .slice sd (n + M) cap]) X.heap.size (.slice sd (n + M) cap) (n + M) 2 (grD n I)) := hide (own_setG hos hq (by decide) (by decide) _)
      have hcz : Hid (CtAt (y.setRow q #[.int .u32 (no : Nat), .int .u32 (fi : Nat), .int .i64 (n : Nat), .int .i64 (M : Nat), .slice sd (n + M) cap]) cp c') := hide ((setRow_other y q cp _ (ty_ne hy.2 hq (by decide))).trans hy.2)
      have hyzh := Lib.hid hyz
      clear hq hos hyz
      refine h_write (i := 32) (w' := y.setRow q #[.int .u32 (no : Nat), .int .u32 (fi : Nat), .int .i64 (n : Nat), .int .i64 (M : Nat), .slice sd (n + M) cap]) (fun y : World => y.cell? ⟨bp, 0, none⟩ = some (.pointer (some ⟨tb, 0, none⟩)) ∧ y.cell? ⟨bp, 1, none⟩ = some (.pointer (some ⟨cp, 0, none⟩)) ∧ y.cell? ⟨bp, 4, none⟩ = some (.int .u32 (no : Nat)) ∧ y.cell? ⟨bp, 5, none⟩ = some (.int .u32 (fi : Nat)) ∧ y.cell? ⟨bp, 7, none⟩ = some (.slice si n ci)) (fun _ h => h) rfl (by kernel_rfl) rfl ?_ (hS.out _ hyzh.out) ?_
      · go_simp <;> with_reducible rfl
      have hHeld : (fun y : World => y.cell? ⟨bp, 0, none⟩ = some (.pointer (some ⟨tb, 0, none⟩)) ∧ y.cell? ⟨bp, 1, none⟩ = some (.pointer (some ⟨cp, 0, none⟩)) ∧ y.cell? ⟨bp, 4, none⟩ = some (.int .u32 (no : Nat)) ∧ y.cell? ⟨bp, 5, none⟩ = some (.int .u32 (fi : Nat)) ∧ y.cell? ⟨bp, 7, none⟩ = some (.slice si n ci)) (y.setRow q #[.int .u32 (no : Nat), .int .u32 (fi : Nat), .int .i64 (n : Nat), .int .i64 (M : Nat), .slice sd (n + M) cap]) := hS.out _ hyzh.out
      first
        | (refine h_run (i := 33) (v := ?_) hHeld rfl (by kernel_rfl) (by kernel_rfl) (by kernel_rfl) ?_ ?_ ?_
           rotate_left
           · rfl
           · (intro x hSx; (try dsimp only at hSx); go_simp <;> with_reducible rfl)
           simp only [Act.put, List.setIfInBounds_toArray, List.set_cons_zero, List.set_cons_succ])
        | (refine h_skip (i := 33) hHeld rfl (by kernel_rfl) (by kernel_rfl) (by kernel_rfl) ?_ ?_
           · rfl
           simp only [Act.put, List.setIfInBounds_toArray, List.set_cons_zero, List.set_cons_succ])
      clear hHeld bq
      refine h_done (by kernel_rfl) ?_
      go_wp2_with fail
      go_meet
      exact ⟨q, sd, cap, rfl, rfl, hqz, hoz, hyzh, hcz, hBq⟩
  case rest =>
    obtain ⟨q, sd, cap, rfl, rfl, hq, hos, hg, hct, hBq⟩ := hcut
    have hb0 : wc.heap[bp]? = some (.cells #[.pointer (some ⟨tb, 0, none⟩), .pointer (some ⟨cp, 0, none⟩), .int .i64 (size : Nat), .int .i64 (age : Nat), .int .u32 (no : Nat), .int .u32 (fi : Nat), .int .i64 (old : Nat), .slice si n ci] 81 (0, 0)) := (hg.out.block bp hbX.out.lt (fun e => hbX.out.ne_cp (by injection e))).trans hbX.out.b
    have hb0h := Lib.hid hb0
    have c4 := (cell_of_block hb0 (i := 4)).trans rfl
    have f4 := frozen_of_row wc bp 4 _ _ hb0
    obtain ⟨N1, hN1⟩ : ∃ N1 : Nat, (no + 1) % 4294967296 = N1 := ⟨_, rfl⟩
    obtain ⟨F1, hF1⟩ : ∃ F1 : Nat, (fi + n) % 4294967296 = F1 := ⟨_, rfl⟩
    have e1 := Lib.hid (show ((no : Int) + 1) % 4294967296 = (N1 : Int) by omega)
    have e2 := Lib.hid (show ((fi : Int) + (n : Int)) % 4294967296 = (F1 : Int) by omega)
    have hN1h := Lib.hid hN1
    have hF1h := Lib.hid hF1
    clear hb0 hN1 hF1
    go_upto_region 3 with (fail)
    rw [e1.out]
    have hb1 : (wc.setCell ⟨bp, 4, none⟩ (.int .u32 (N1 : Nat))).heap[bp]? = some (.cells #[.pointer (some ⟨tb, 0, none⟩), .pointer (some ⟨cp, 0, none⟩), .int .i64 (size : Nat), .int .i64 (age : Nat), .int .u32 (N1 : Nat), .int .u32 (fi : Nat), .int .i64 (old : Nat), .slice si n ci] 81 (0, 0)) := blk_set hb0h.out 4 _
    have hd1 := Lib.hid (only_set (only_refl wc (some bp)) 4 (.int .u32 (N1 : Nat)))
    clear c4 f4
    generalize World.setCell wc _ _ = Y1 at *
    have hb1h := Lib.hid hb1
    have c5 := (cell_of_block hb1 (i := 5)).trans rfl
    have c7 := (cell_of_block hb1 (i := 7)).trans rfl
    have f5 := frozen_of_row Y1 bp 5 _ _ hb1
    have hwn : IntKind.u32.wrap (n : Int) = (n : Int) := by rw [IntKind.wrap_u32]; omega
    clear hb1
    go_still_tail 11, (by kernel_rfl)
    go_upto_region 4 with (fail)
    rw [e2.out]
    have hb2 : (Y1.setCell ⟨bp, 5, none⟩ (.int .u32 (F1 : Nat))).drew.heap[bp]? = some (.cells #[.pointer (some ⟨tb, 0, none⟩), .pointer (some ⟨cp, 0, none⟩), .int .i64 (size : Nat), .int .i64 (age : Nat), .int .u32 (N1 : Nat), .int .u32 (F1 : Nat), .int .i64 (old : Nat), .slice si n ci] 81 (0, 0)) := blk_set (w := Y1) hb1h.out 5 _
    have hd2 := Lib.hid (only_drew (only_set hd1.out 5 (.int .u32 (F1 : Nat))))
    clear c5 c7 f5 hwn
    generalize World.drew (World.setCell Y1 _ _) = Y2 at *
    have hb3 : (Y2.setCell ⟨bp, 7, none⟩ (.slice none 0 0)).heap[bp]? = some (.cells #[.pointer (some ⟨tb, 0, none⟩), .pointer (some ⟨cp, 0, none⟩), .int .i64 (size : Nat), .int .i64 (age : Nat), .int .u32 (N1 : Nat), .int .u32 (F1 : Nat), .int .i64 (old : Nat), .slice none 0 0] 81 (0, 0)) := blk_set hb2 7 _
    have hd3 := Lib.hid (only_set hd2.out 7 (.slice none 0 0))
    have hb4 : ((Y2.setCell ⟨bp, 7, none⟩ (.slice none 0 0)).setCell ⟨bp, 6, none⟩ (.int .i64 0)).heap[bp]? = some (.cells #[.pointer (some ⟨tb, 0, none⟩), .pointer (some ⟨cp, 0, none⟩), .int .i64 (size : Nat), .int .i64 (age : Nat), .int .u32 (N1 : Nat), .int .u32 (F1 : Nat), .int .i64 0, .slice none 0 0] 81 (0, 0)) := blk_set hb3 6 _
    have hd4 := Lib.hid (only_set hd3.out 6 (.int .i64 0))
    have c7 := (cell_of_block hb2 (i := 7)).trans rfl
    have f7 := frozen_of_row Y2 bp 7 _ _ hb2
    have c6 := (cell_of_block hb3 (i := 6)).trans rfl
    have f6 := frozen_of_row _ bp 6 _ _ hb3
    have hb4h := Lib.hid hb4
    clear hb2 hb3 hb4
    go_upto_region 5 with (fail)
    clear c7 f7 c6 f6
    generalize World.setCell (World.setCell Y2 _ _) _ _ = Y at *
    have hqne : q ≠ bp := by have := hbX.out.lt; omega
    have hqY : q < wc.heap.size := (Array.getElem?_eq_some_iff.1 hq.out).1
    have bq : blk Y q = some (.cells #[.int .u32 (no : Nat), .int .u32 (fi : Nat), .int .i64 (n : Nat), .int .i64 (M : Nat), .slice sd (n + M) cap] 48 (0, 0)) := blk_of ((hd4.out.block q hqY (fun e => hqne (by injection e with e))).trans hq.out)
    have hcpl := hbX.out.ct.lt
    have hwcp : w.heap.size ≠ cp := by have := hbh.out.ct.lt; omega
    have hwbp : w.heap.size ≠ bp := by have := hbh.out.lt; omega
    have b0w : blk Y w.heap.size = some (.cells #[.int .u32 0, .int .u32 0, .int .i64 0, .int .i64 0, .slice none 0 0] 48 (0, 0)) := blk_of ((hd4.out.block w.heap.size (by have := hg.out.size; omega) (fun e => hwbp (by injection e))).trans ((hg.out.block w.heap.size hwX (fun e => hwcp (by injection e))).trans b0h.out))
    have hwq : w.heap.size ≠ q := by omega
    go_wp2_with fail
    rw [hclo.out, hgrp.out, hN1h.out, hF1h.out]
    have hbl := hbX.out.lt
    have hXw := hg.out.size
    have hYw := hd4.out.size
    have htl := hbX.out.gf.lt
    have hD : Y.grownBy (Y.setRow w.heap.size #[.int .u32 (no : Nat), .int .u32 (fi : Nat), .int .i64 (n : Nat), .int .i64 (M : Nat), .slice sd (n + M) cap]) (some w.heap.size) := only_setRow (only_refl Y _) (.inl rfl) _
    have hgf : IsGf (Y.setRow w.heap.size #[.int .u32 (no : Nat), .int .u32 (fi : Nat), .int .i64 (n : Nat), .int .i64 (M : Nat), .slice sd (n + M) cap]) tb := IsGf.kept (IsGf.kept (IsGf.kept hbX.out.gf hg.out hbX.out.ne_tc) hd4.out hbX.out.ne_tb) hD (by have := hbh.out.gf.lt; omega)
    have hcf : CtAt (Y.setRow w.heap.size #[.int .u32 (no : Nat), .int .u32 (fi : Nat), .int .i64 (n : Nat), .int .i64 (M : Nat), .slice sd (n + M) cap]) cp c' := (hD.block cp (by omega) (fun e => hwcp (by injection e with e; exact e.symm))).trans ((hd4.out.block cp (by omega) (fun e => hbX.out.ne_cp (by injection e with e; exact e.symm))).trans hct.out)
    have hbf := (hD.block bp (by omega) (fun e => hwbp (by injection e with e; exact e.symm))).trans hb4h.out
    have hbwc : wc.heap[bp]? = _ := hb0h.out
    have ho1 : OwnS Y X.heap.size (.slice sd (n + M) cap) (n + M) 2 (grD n I) := hos.out.kept hd4.out (by
      rcases hv : (Value.slice sd (n + M) cap).ownBlock with _ | r
      · exact .inl rfl
      · refine .inr (fun e => ?_)
        injection e with e
        have := (hos.out.lt r hv).1
        omega) (fun r hr => by
      injection hr with hr
      subst hr
      exact ⟨_, _, _, hbwc, by decide⟩)
    have ho2 := (own_setG ho1 (blk_heap b0w) (by decide) (by decide) #[.int .u32 (no : Nat), .int .u32 (fi : Nat), .int .i64 (n : Nat), .int .i64 (M : Nat), .slice sd (n + M) cap]).base (show w.heap.size ≤ X.heap.size by omega)
    refine bodyPost_ret (v := .tuple #[.agg #[.int .u32 (no : Nat), .int .u32 (fi : Nat), .int .i64 (n : Nat), .int .i64 (M : Nat), .slice sd (n + M) cap], .bool true]) (results_row_tmp rfl _ _ w.heap.size 48 _ (0, 0) _ _ rfl rfl (setRow_heap _ _ _ _ _ _ (blk_heap b0w)) Try.underlying48 rfl gg_info) rfl
      ⟨.slice none 0 0, ⟨hbf, OwnZ.nil _ _ _ _ _, hgf, hcf⟩, fun b hb => by simp [Value.ownBlock] at hb, (((Kb.refl w bp cp (.slice si n ci)).below hB0h.out).grown hg.out (fun r hr => .inr (.inl (by injection hr with hr; exact hr.symm)))).grown hd4.out (fun r hr => .inl (by injection hr with hr; exact hr.symm)) |>.grown hD (fun r hr => .inr (.inr (.inr (by injection hr with hr; omega)))), ⟨sd, cap, rfl, ho2⟩⟩
end Go.Proofs.Ytipfoclmdbbjiaa

/- The walk of the law DeltaReads: it answers true for all bytes and every list of pieces. -/
import Derived.Test.YtdpmhfpoendooaaDeltaTake
namespace Go.Proofs.Ytdpmhfpoendooaa
open Go.RowKit
theorem pv_open {w : World} {a : Option Addr} {len cap : Nat} {zs : List Int} (h : IsRow .u8 w a len cap zs) : ∃ f, Pv w a len cap f ∧ (∀ j, f j < 256) := by
  obtain ⟨l, hl, h1, h2, hb, hs⟩ := isRow_nat h 256 u8_bd
  refine ⟨fun i => l.getD i 0, ⟨fun i hi => ?_, fun e => ?_, by omega, h2⟩, fun i => ?_⟩
  · have hi2 : i < l.length := by omega
    obtain ⟨b, off, hsb, hc⟩ := hs i (l.getD i 0) (by rw [List.getD_eq_getElem?_getD, List.getElem?_eq_getElem hi2]; rfl)
    exact ⟨b, off, hsb, hc⟩
  · subst e; exact isRow_none h
  · show l.getD i 0 < 256
    by_cases hi : i < l.length
    · rw [List.getD_eq_getElem?_getD, List.getElem?_eq_getElem hi]; exact hb _ (List.getElem_mem _)
    · rw [List.getD_eq_getElem?_getD, List.getElem?_eq_none (by omega)]; exact (by decide : 0 < 256)
/-- a bad reader's Gamma -/
theorem d_gam_bad (p g c L q : Nat) (D : Nat → Nat) (w : World) (hr : RdAt w p g c L q true D) (hL : L ≤ 1000000) (hq : q ≤ 8 * L) :
    Calls Try.prog 23 #[.pointer (some ⟨p, 0, none⟩)] w (RdPost w p g c L q true D (.int .u64 0)) := by
  have kg := Lib.hid (d_get_no p g c L q true D 1 w hr hL 1 clamp_one hq (.inl rfl))
  clear hr
  go_enter Try.func23, Try.ntmps23
  go_wp2_with fail
  go_loopw [3] (fun iv wr => iv = .int .i64 0 ∧ wr = w) (fun iv _ => 0)
  case atStart => exact ⟨rfl, rfl⟩
  case round =>
    obtain ⟨rfl, rfl⟩ := hrel
    go_wp2_with fail
    refine kg.out.mono ?_
    rintro e w2 ⟨rfl, r2, g2⟩
    have c2 : w2.cell? ⟨p, 2, none⟩ = some (.bool true) := (cell_of_block r2.st).trans rfl
    have f2 : w2.frozen? ⟨p, 2, none⟩ = false := frozen_of_row w2 p 2 _ _ r2.st
    have r2h := Lib.hid r2.setBad
    have g2h := Lib.hid (only_set g2 2 (.bool true))
    clear r2 g2
    go_wp2_with fail
    go_ret
    exact ⟨rfl, r2h.out, g2h.out⟩
/-- the reader and the bits -/
structure RdMid (w : World) (p g c L q : Nat) (bad : Bool) (D : Nat → Nat) (v : Value) : Prop where
  rd : RdAt w p g c L q bad D
  row : OwnB w (p + 1) v (8 * L) (obF D)
theorem RdAt.below {w w' : World} {p g c L q : Nat} {bad : Bool} {D : Nat → Nat} (h : RdAt w p g c L q bad D) (hb : Below w.heap.size w w') : RdAt w' p g c L q bad D :=
  ⟨(hb.block p (blk_lt (blk_of h.st))).trans h.st, h.row.below hb h.row.lt, h.ne⟩
theorem RdMid.put {w w' : World} {p g c L q q' : Nat} {bad bad' : Bool} {D : Nat → Nat} {v : Value} (h : RdMid w p g c L q bad D v) (hr : RdAt w' p g c L q' bad' D) (hg : w.grownBy w' (some p)) : RdMid w' p g c L q' bad' D v :=
  ⟨hr, h.row.kept hg (.inr fun e => by have := (h.row.lt p e).1; omega)⟩
theorem RdMid.below_put {w w' w0 : World} {p B : Nat} (hB : Below B w0 w) (hg : w.grownBy w' (some p)) (hp : B ≤ p) (hp2 : B ≤ w0.heap.size) : Below B w0 w' := by
  refine ⟨hg.os.trans hB.os, hg.tape.trans hB.tape, hg.output.trans hB.output, Nat.le_trans hB.size hg.size, fun i hi => (hg.block i (by have := hB.size; omega) (fun e => by injection e with e; omega)).trans (hB.block i hi)⟩
theorem OwnB.base {w : World} {b b' n : Nat} {v : Value} {f : Nat → Nat} (h : OwnB w b v n f) (hb : b' ≤ b) : OwnB w b' v n f := own_base h hb
/-- what the row looks like -/
theorem RdMid.shape {w : World} {p g c L q : Nat} {bad : Bool} {D : Nat → Nat} {v : Value} (h : RdMid w p g c L q bad D v) :
    (v = .slice none 0 0 ∧ L = 0) ∨ (∃ gb cb, v = .slice (some ⟨gb, 0, none⟩) (8 * L) cb) := by
  rcases h.row.2 with ⟨h1, h2⟩ | ⟨gb, cb, _, hv, _⟩
  · exact .inl ⟨h1, by omega⟩
  · exact .inr ⟨gb, cb, hv⟩
def rsK (D : Nat → Nat) (L q k : Nat) : Bool := decide (8 * L < q + 8) && decide (nuF (obF D) q k = 0)
theorem rsK_0 (D : Nat → Nat) (L q : Nat) : rsK D L q 0 = decide (8 * L < q + 8) := by unfold rsK; rw [nu_zero]; simp
theorem rsK_next0 (D : Nat → Nat) (L q k : Nat) (h : obF D (q + k) = 0) : rsK D L q (k + 1) = rsK D L q k := by
  unfold rsK; rw [nu_next, h]
  by_cases e : nuF (obF D) q k = 0
  · simp [e]
  · simp [e]; intro _; omega
theorem rsK_next1 (D : Nat → Nat) (L q k : Nat) (h : obF D (q + k) = 1) : rsK D L q (k + 1) = false := by
  unfold rsK; rw [nu_next, h]; simp
theorem rsK_off (D : Nat → Nat) (L q k : Nat) (h : rsK D L q k = false) : rsK D L q (k + 1) = false := by
  unfold rsK at *
  rw [nu_next]
  by_cases e : 8 * L < q + 8
  · simp [e] at h ⊢; intro h2; omega
  · simp [e]
theorem rsK_end (D : Nat → Nat) (L q : Nat) : rsK D L q (8 * L - q) = rsB D L q := rfl
theorem clampN2 (k : Int) : ∃ N : Nat, clampZ k 0 64 = (N : Int) ∧ N ≤ 64 := by
  have := clampZ_bd k 0 64 (by omega)
  exact ⟨(clampZ k 0 64).toNat, by omega, by omega⟩
attribute [local irreducible] rsK rsB OwnB byF apF bitF putF ctF bsF gmF gmN nbF chF chN enN enB dlF lastF pxF obF nuF catF
set_option maxRecDepth 100000 in
set_option maxHeartbeats 4000000 in
theorem deltaReads_walk (a0 : Option Addr) (len0 cap0 : Nat) (z0 : List Int) (a1 : Option Addr) (len1 cap1 : Nat) (w : World) (w0 : IsRow .u8 w a0 len0 cap0 z0) (w1 : IsRec [some .u64, some .i64, none] w a1 len1 cap1) :
    Calls Try.prog 5 #[.slice a0 len0 cap0, .slice a1 len1 cap1] w fun e w' => e = .returned (.bool true) ∧ Below w.heap.size w w' := by
  obtain ⟨D, hs, hD⟩ := pv_open w0
  obtain ⟨V, K, G, hp, _⟩ := pc_open w1
  have hln : len1 ≤ 9223372036854775807 := by obtain ⟨_, _, _, h1, h2, _⟩ := w1; unfold maxLen at h2; omega
  have hl0 : len0 ≤ 9223372036854775807 := by have h1 := hs.c0; have h2 := hs.c1; unfold maxLen at h2; omega
  have hph := Lib.hid hp
  have hsh := Lib.hid hs
  have hDh := Lib.hid hD
  clear w0 w1 hp hs hD
  by_cases hlong : 500 < len0
  · have d1 : decide ((len0 : Int) > 500) = true := decide_eq_true (by omega)
    go_enter Try.func5, Try.ntmps5
    go_wp2_with fail
    refine (de_awake w).mono ?_
    rintro e w1 ⟨rfl, hb1⟩
    go_wp2_with fail
    go_ret
    exact ⟨rfl, hb1⟩
  have hL : len0 ≤ 500 := by omega
  have d1 : decide ((len0 : Int) > 500) = false := decide_eq_false (by omega)
  clear hlong hl0
  go_enter Try.func5, Try.ntmps5
  go_wp2_with fail
  refine (de_awake w).mono ?_
  rintro e w1 ⟨rfl, hb1⟩
  have kn := Lib.hid (d_new a0 len0 cap0 D w1 (hsh.out.below hb1) (by omega))
  have hb1h := Lib.hid hb1
  clear hb1
  go_wp2_with fail
  refine kn.out.mono ?_
  rintro e w2 ⟨p, g, c, rfl, hr2, hpp, hgg, hb2⟩
  have hB2 := Lib.hid (below_step hb1h.out hb1h.out.size hb2)
  have hpw : w.heap.size ≤ p := Nat.le_trans hb1h.out.size hpp
  have ka := Lib.hid (dr_all a0 len0 cap0 D w2 (hsh.out.below hB2.out).rd hDh.out (by omega))
  have hr2h := Lib.hid hr2
  clear hr2 hb2 hpp hgg kn
  go_wp2_with fail
  refine ka.out.mono ?_
  rintro e w3 ⟨bv, rfl, ho3, hb3⟩
  have hB3 := Lib.hid (below_step hB2.out hB2.out.size hb3)
  have hM3 : Hid (RdMid w3 p g c len0 0 false D bv) := hide ⟨hr2h.out.below hb3, ho3.base (blk_lt (blk_of hr2h.out.st))⟩
  clear ho3 hb3 ka hr2h hB2 hb1h
  rcases hM3.out.shape with ⟨rfl, hL0⟩ | ⟨gb, cb, rfl⟩
  · subst hL0
    have hz0 : ((0 : Nat) : Int) = 0 := rfl
    have kl := Lib.hid (fun W (h : RdAt W p g c 0 0 false D) => d_left p g c 0 0 false D W h (by omega) (by omega))
    have kt := Lib.hid (fun W => dr_take_no none 0 0 0 (fun _ => 0) W ⟨fun i hi => absurd hi (by omega), (fun _ => ⟨rfl, rfl⟩), Nat.le_refl _, by unfold maxLen; omega⟩ (fun _ _ => rfl) (Nat.le_refl _) (.inl rfl) (.inr (by omega)) (by omega))
    have kf := Lib.hid (fun W (h : RdAt W p g c 0 0 false D) => d_gam_no p g c 0 0 0 D W h hDh.out (by omega) (fun j hj => absurd hj (by omega)) (by omega) (.inl ⟨by omega, by omega⟩))
    have kb := Lib.hid (fun W bad (h : RdAt W p g c 0 0 bad D) => d_bad p g c 0 0 bad D W h)
    have kb2 := Lib.hid (fun q2 W (h : RdAt W p g c 0 q2 true D) => d_bad p g c 0 q2 true D W h)
    have kr2 := Lib.hid (fun q2 W (h : RdAt W p g c 0 q2 true D) (hq2 : q2 ≤ 8 * 0) => d_rest_bad p g c 0 q2 D W h (by omega) hq2)
    have kg2 := Lib.hid (fun q2 W (h : RdAt W p g c 0 q2 true D) (hq2 : q2 ≤ 8 * 0) => d_get_no p g c 0 q2 true D 0 W h (by omega) 0 (by decide) hq2 (.inl rfl))
    have kr := Lib.hid (fun W (h : RdAt W p g c 0 0 false D) => d_rest p g c 0 0 D W h hDh.out (by omega) (by omega))
    have hrs : rsB D 0 0 = true := by rw [← rsK_end, show 8 * 0 - 0 = 0 from rfl, rsK_0]; rfl
    rw [hrs] at kr
    rw [hz0] at kl
    go_wp2_with fail
    go_loopw [7, 8] (fun qv iv wr => ∃ j : Nat, j ≤ len1 ∧ j ≤ 60 ∧ qv = .int .i64 0 ∧ iv = .int .i64 (j : Nat) ∧ Hid (RdMid wr p g c 0 0 false D (.slice none 0 0)) ∧ Hid (Below w.heap.size w wr)) (fun _ iv _ => 60 - (intOf iv).toNat)
    case atStart => exact ⟨0, by omega, by omega, rfl, rfl, hM3, hB3⟩
    case round =>
      obtain ⟨j, hj, hj60, rfl, rfl, hM, hB⟩ := hrel
      by_cases hjn : j < len1 ∧ j < 60
      · obtain ⟨hj1, hj2⟩ := hjn
        have d2 : decide ((j : Int) < (len1 : Int)) = true := decide_eq_true (by omega)
        have d3 : decide ((j : Int) < 60) = true := decide_eq_true (by omega)
        have kl1 := Lib.hid (kl.out wr hM.out.rd)
        go_wp2_with fail
        refine kl1.out.mono ?_
        rintro e w4 ⟨rfl, x, rfl⟩
        have hM4 := Lib.hid (hM.out.put (hM.out.rd.drewN x) (only_drewN (only_refl wr (some p)) x))
        have hB4 := Lib.hid (below_drewN hB.out x)
        generalize wr.drewN x = w4 at *
        have kb1 := Lib.hid (kb.out w4 false hM4.out.rd)
        go_wp2_with fail
        refine kb1.out.mono ?_
        rintro e w5 ⟨rfl, rfl⟩
        obtain ⟨b0, o0, hse, c0, c1, c2⟩ := (hph.out.below hB4.out) j hj1
        subst hse
        cases hg : G j
        · rw [hg] at c2
          clear c0
          obtain ⟨N, hN, hN64⟩ := clampN2 (K j)
          generalize hkk : K j = kk at *
          have hcl := Lib.hid (fun x h => (clamp_mm2 x kk h).trans hN)
          have kg := Lib.hid (fun W (h : RdAt W p g c 0 0 false D) (hqn : 0 + N ≤ 8 * 0) => d_get p g c 0 0 D kk W h hDh.out (by omega) N hN hqn)
          have kgn := Lib.hid (fun W (h : RdAt W p g c 0 0 false D) (hqn : 8 * 0 < 0 + N) => d_get_no p g c 0 0 false D kk W h (by omega) N hN (by omega) (.inr hqn))
          have hNh := Lib.hid hN
          clear hN
          go_upto_region 22 with (fail)
          go_cut [11] (fun nv wx => nv = .int .i64 (N : Int) ∧ w4 = wx)
          case first =>
            go_wp2_with fail
            all_goals
              go_meet
              exact ⟨congrArg (Value.int .i64) (by have h := hcl.out _ rfl; split at h <;> (try split at h) <;> omega), rfl⟩
          case rest =>
          obtain ⟨rfl, hwc⟩ := hcut
          subst hwc
          have e9 : IntKind.i64.wrap (N : Int) = (N : Int) := IntWalk.i64_in _ (by omega)
          by_cases hqn : 0 < N
          · have d7 : decide (0 < (N : Int)) = true := decide_eq_true (by omega)
            have d8 : decide (0 < N) = true := decide_eq_true hqn
            have d9 : decide ((N : Int) > 0) = true := decide_eq_true (by omega)
            have kg1 := Lib.hid (kgn.out w4 hM4.out.rd (by omega))
            go_wp2_with fail
            refine kg1.out.mono ?_
            rintro e w5 ⟨rfl, r5, g5⟩
            have hB5 := Lib.hid (RdMid.below_put hB4.out g5 hpw (Nat.le_refl _))
            have kb5 := Lib.hid (d_bad p g c 0 0 true D w5 r5)
            have ky5 := Lib.hid (d_gam_bad p g c 0 0 D w5 r5 (by omega) (by omega))
            clear r5 g5
            go_wp2_with fail
            refine kb5.out.mono ?_
            rintro e w6 ⟨rfl, rfl⟩
            go_wp2_with fail
            refine ky5.out.mono ?_
            rintro e w7 ⟨rfl, r7, g7⟩
            have hB7 := Lib.hid (RdMid.below_put hB5.out g7 hpw (Nat.le_refl _))
            have kr7 := Lib.hid (d_rest_bad p g c 0 0 D w7 r7 (by omega) (by omega))
            clear r7 g7
            go_wp2_with fail
            refine kr7.out.mono ?_
            rintro e w8 ⟨rfl, r8, g8⟩
            have hB8 := Lib.hid (RdMid.below_put hB7.out g8 hpw (Nat.le_refl _))
            clear r8 g8
            go_wp2_with fail
            go_ret
            exact ⟨rfl, hB8.out⟩
          · have hN0 : N = 0 := by omega
            subst hN0
            go_upto_region 25 with (fail)
            have hin : ∀ x : World, Below w.heap.size w x → x.cell? ⟨b0, o0 + j * 3 + 1, none⟩ = some (.int .i64 kk) := fun x hx => by
              obtain ⟨b9, o9, hse9, _, c9, _⟩ := (hph.out.below hx) j hj1
              cases hse9
              rw [hkk] at c9
              exact c9
            have hinh := Lib.hid hin
            try rw [hz0]
            clear hin c1
            have hMd : Hid (RdMid w4.drew p g c 0 0 false D (.slice none 0 0)) := hide ⟨⟨hM4.out.rd.st, hM4.out.rd.row, hM4.out.rd.ne⟩, hM4.out.row.below (below_drewN (Below.refl w4.heap.size w4) 1)⟩
            have hBd : Hid (Below w.heap.size w w4.drew) := hide (below_drewN hB4.out 1)
            refine h_begin 15 (fun x => x.cell? ⟨b0, o0 + j * 3 + 1, none⟩ = some (.int .i64 kk)) rfl (by kernel_rfl) (hinh.out _ hBd.out) ?_
            have hHeld : (fun x : World => x.cell? ⟨b0, o0 + j * 3 + 1, none⟩ = some (.int .i64 kk)) w4.drew := hinh.out _ hBd.out
            first
              | (refine h_run (i := 0) (v := ?_) hHeld rfl (by kernel_rfl) (by kernel_rfl) (by kernel_rfl) ?_ ?_ ?_
                 rotate_left
                 · rfl
                 · (intro x hSx; (try dsimp only at hSx); go_simp <;> with_reducible rfl)
                 simp only [Act.put, List.setIfInBounds_toArray, List.set_cons_zero, List.set_cons_succ])
              | (refine h_skip (i := 0) hHeld rfl (by kernel_rfl) (by kernel_rfl) (by kernel_rfl) ?_ ?_
                 · rfl
                 simp only [Act.put, List.setIfInBounds_toArray, List.set_cons_zero, List.set_cons_succ])
            first
              | (refine h_run (i := 1) (v := ?_) hHeld rfl (by kernel_rfl) (by kernel_rfl) (by kernel_rfl) ?_ ?_ ?_
                 rotate_left
                 · rfl
                 · (intro x hSx; (try dsimp only at hSx); go_simp <;> with_reducible rfl)
                 simp only [Act.put, List.setIfInBounds_toArray, List.set_cons_zero, List.set_cons_succ])
              | (refine h_skip (i := 1) hHeld rfl (by kernel_rfl) (by kernel_rfl) (by kernel_rfl) ?_ ?_
                 · rfl
                 simp only [Act.put, List.setIfInBounds_toArray, List.set_cons_zero, List.set_cons_succ])
            first
              | (refine h_run (i := 2) (v := ?_) hHeld rfl (by kernel_rfl) (by kernel_rfl) (by kernel_rfl) ?_ ?_ ?_
                 rotate_left
                 · rfl
                 · (intro x hSx; (try dsimp only at hSx); go_simp <;> with_reducible rfl)
                 simp only [Act.put, List.setIfInBounds_toArray, List.set_cons_zero, List.set_cons_succ])
              | (refine h_skip (i := 2) hHeld rfl (by kernel_rfl) (by kernel_rfl) (by kernel_rfl) ?_ ?_
                 · rfl
                 simp only [Act.put, List.setIfInBounds_toArray, List.set_cons_zero, List.set_cons_succ])
            first
              | (refine h_run (i := 3) (v := ?_) hHeld rfl (by kernel_rfl) (by kernel_rfl) (by kernel_rfl) ?_ ?_ ?_
                 rotate_left
                 · rfl
                 · (intro x hSx; (try dsimp only at hSx); go_simp <;> with_reducible rfl)
                 simp only [Act.put, List.setIfInBounds_toArray, List.set_cons_zero, List.set_cons_succ])
              | (refine h_skip (i := 3) hHeld rfl (by kernel_rfl) (by kernel_rfl) (by kernel_rfl) ?_ ?_
                 · rfl
                 simp only [Act.put, List.setIfInBounds_toArray, List.set_cons_zero, List.set_cons_succ])
            first
              | (refine h_run (i := 4) (v := ?_) hHeld rfl (by kernel_rfl) (by kernel_rfl) (by kernel_rfl) ?_ ?_ ?_
                 rotate_left
                 · rfl
                 · (intro x hSx; (try dsimp only at hSx); go_simp <;> with_reducible rfl)
                 simp only [Act.put, List.setIfInBounds_toArray, List.set_cons_zero, List.set_cons_succ])
              | (refine h_skip (i := 4) hHeld rfl (by kernel_rfl) (by kernel_rfl) (by kernel_rfl) ?_ ?_
                 · rfl
                 simp only [Act.put, List.setIfInBounds_toArray, List.set_cons_zero, List.set_cons_succ])
            first
              | (refine h_run (i := 5) (v := ?_) hHeld rfl (by kernel_rfl) (by kernel_rfl) (by kernel_rfl) ?_ ?_ ?_
                 rotate_left
                 · rfl
                 · (intro x hSx; (try dsimp only at hSx); go_simp <;> with_reducible rfl)
                 simp only [Act.put, List.setIfInBounds_toArray, List.set_cons_zero, List.set_cons_succ])
              | (refine h_skip (i := 5) hHeld rfl (by kernel_rfl) (by kernel_rfl) (by kernel_rfl) ?_ ?_
                 · rfl
                 simp only [Act.put, List.setIfInBounds_toArray, List.set_cons_zero, List.set_cons_succ])
            first
              | (refine h_run (i := 7) (v := ?_) hHeld rfl (by kernel_rfl) (by kernel_rfl) (by kernel_rfl) ?_ ?_ ?_
                 rotate_left
                 · rfl
                 · (intro x hSx; (try dsimp only at hSx); go_simp <;> with_reducible rfl)
                 simp only [Act.put, List.setIfInBounds_toArray, List.set_cons_zero, List.set_cons_succ])
              | (refine h_skip (i := 7) hHeld rfl (by kernel_rfl) (by kernel_rfl) (by kernel_rfl) ?_ ?_
                 · rfl
                 simp only [Act.put, List.setIfInBounds_toArray, List.set_cons_zero, List.set_cons_succ])
            first
              | (refine h_run (i := 8) (v := ?_) hHeld rfl (by kernel_rfl) (by kernel_rfl) (by kernel_rfl) ?_ ?_ ?_
                 rotate_left
                 · rfl
                 · (intro x hSx; (try dsimp only at hSx); go_simp <;> with_reducible rfl)
                 simp only [Act.put, List.setIfInBounds_toArray, List.set_cons_zero, List.set_cons_succ])
              | (refine h_skip (i := 8) hHeld rfl (by kernel_rfl) (by kernel_rfl) (by kernel_rfl) ?_ ?_
                 · rfl
                 simp only [Act.put, List.setIfInBounds_toArray, List.set_cons_zero, List.set_cons_succ])
            first
              | (refine h_run (i := 9) (v := ?_) hHeld rfl (by kernel_rfl) (by kernel_rfl) (by kernel_rfl) ?_ ?_ ?_
                 rotate_left
                 · rfl
                 · (intro x hSx; (try dsimp only at hSx); go_simp <;> with_reducible rfl)
                 simp only [Act.put, List.setIfInBounds_toArray, List.set_cons_zero, List.set_cons_succ])
              | (refine h_skip (i := 9) hHeld rfl (by kernel_rfl) (by kernel_rfl) (by kernel_rfl) ?_ ?_
                 · rfl
                 simp only [Act.put, List.setIfInBounds_toArray, List.set_cons_zero, List.set_cons_succ])
            first
              | (refine h_run (i := 10) (v := ?_) hHeld rfl (by kernel_rfl) (by kernel_rfl) (by kernel_rfl) ?_ ?_ ?_
                 rotate_left
                 · rfl
                 · (intro x hSx; (try dsimp only at hSx); go_simp <;> with_reducible rfl)
                 simp only [Act.put, List.setIfInBounds_toArray, List.set_cons_zero, List.set_cons_succ])
              | (refine h_skip (i := 10) hHeld rfl (by kernel_rfl) (by kernel_rfl) (by kernel_rfl) ?_ ?_
                 · rfl
                 simp only [Act.put, List.setIfInBounds_toArray, List.set_cons_zero, List.set_cons_succ])
            first
              | (refine h_run (i := 11) (v := ?_) hHeld rfl (by kernel_rfl) (by kernel_rfl) (by kernel_rfl) ?_ ?_ ?_
                 rotate_left
                 · rfl
                 · (intro x hSx; (try dsimp only at hSx); go_simp <;> with_reducible rfl)
                 simp only [Act.put, List.setIfInBounds_toArray, List.set_cons_zero, List.set_cons_succ])
              | (refine h_skip (i := 11) hHeld rfl (by kernel_rfl) (by kernel_rfl) (by kernel_rfl) ?_ ?_
                 · rfl
                 simp only [Act.put, List.setIfInBounds_toArray, List.set_cons_zero, List.set_cons_succ])
            have e8 : IntKind.i64.wrap 0 = 0 := by decide
            refine h_run (i := 12) (v := .slice none 0 0) hHeld rfl (by kernel_rfl) (by kernel_rfl) (by kernel_rfl) ?_ ?_ ?_
            · rfl
            · intro x hSx
              go_simp <;> with_reducible rfl
            simp only [Act.put, List.setIfInBounds_toArray, List.set_cons_zero, List.set_cons_succ]
            clear hHeld
            refine h_call (i := 6) (fun x => x.cell? ⟨b0, o0 + j * 3 + 1, none⟩ = some (.int .i64 kk)) (fun _ h => h) (kg.out w4.drew hMd.out.rd (by omega)) rfl (by kernel_rfl) rfl ?_ ?_
            · go_simp <;> with_reducible rfl
            rintro e w5 ⟨rfl, r5, g5⟩
            have hM5 := Lib.hid (hMd.out.put r5 g5)
            have hB5 := Lib.hid (RdMid.below_put hBd.out g5 hpw (Nat.le_refl _))
            refine ⟨_, rfl, hinh.out w5 hB5.out, ?_⟩
            simp only [Act.put, List.setIfInBounds_toArray, List.set_cons_zero, List.set_cons_succ]
            have kt5 := Lib.hid (dr_number none 0 0 (fun i => obF D (0 + i)) w5 (fun i hi => absurd hi (by omega)) (bit_shift (fun i => ob_bit D i) 0) (by omega))
            rw [nu_shift, Nat.add_zero] at kt5
            refine h_call (i := 13) (fun x => x.cell? ⟨b0, o0 + j * 3 + 1, none⟩ = some (.int .i64 kk)) (fun _ h => h) kt5.out rfl (by kernel_rfl) rfl ?_ ?_
            · go_simp <;> with_reducible rfl
            rintro e w6 ⟨rfl, rfl⟩
            refine ⟨_, rfl, hinh.out w5 hB5.out, ?_⟩
            simp only [Act.put, List.setIfInBounds_toArray, List.set_cons_zero, List.set_cons_succ]
            have hHeld : (fun x : World => x.cell? ⟨b0, o0 + j * 3 + 1, none⟩ = some (.int .i64 kk)) w5 := hinh.out w5 hB5.out
            clear r5 g5 kt5 kg
            generalize nuF (obF D) 0 0 = y at *
            first
              | (refine h_run (i := 14) (v := ?_) hHeld rfl (by kernel_rfl) (by kernel_rfl) (by kernel_rfl) ?_ ?_ ?_
                 rotate_left
                 · rfl
                 · (intro x hSx; (try dsimp only at hSx); go_simp <;> with_reducible rfl)
                 simp only [Act.put, List.setIfInBounds_toArray, List.set_cons_zero, List.set_cons_succ])
              | (refine h_skip (i := 14) hHeld rfl (by kernel_rfl) (by kernel_rfl) (by kernel_rfl) ?_ ?_
                 · rfl
                 simp only [Act.put, List.setIfInBounds_toArray, List.set_cons_zero, List.set_cons_succ])
            clear hHeld
            refine h_done (by kernel_rfl) ?_
            go_wp2_with fail
            go_roundw
            case rel => exact ⟨j + 1, by omega, by omega, by go_num, by go_num, hM5, hB5⟩
            case measure => simp [intOf]; omega
        · rw [hg] at c2
          clear c0 c1
          have kt1 := Lib.hid (kt.out w4)
          have kf1 := Lib.hid (kf.out w4 hM4.out.rd)
          go_wp2_with fail
          refine kt1.out.mono ?_
          rintro e w5 ⟨rfl, rfl⟩
          go_wp2_with fail
          refine kf1.out.mono ?_
          rintro e w6 ⟨q2, hq2, rfl, r6, g6⟩
          have hB6 := Lib.hid (RdMid.below_put hB4.out g6 hpw (Nat.le_refl _))
          have kb3 := Lib.hid (kb2.out q2 w6 r6)
          have kr3 := Lib.hid (kr2.out q2 w6 r6 hq2)
          clear r6 g6
          go_wp2_with fail
          refine kb3.out.mono ?_
          rintro e w7 ⟨rfl, rfl⟩
          go_wp2_with fail
          refine kr3.out.mono ?_
          rintro e w8 ⟨rfl, r8, g8⟩
          have hB8 := Lib.hid (RdMid.below_put hB6.out g8 hpw (Nat.le_refl _))
          have kg3 := Lib.hid (kg2.out q2 w8 r8 hq2)
          clear r8 g8
          go_wp2_with fail
          refine kg3.out.mono ?_
          rintro e w9 ⟨rfl, r9, g9⟩
          have hB9 := Lib.hid (RdMid.below_put hB8.out g9 hpw (Nat.le_refl _))
          clear r9 g9
          go_wp2_with fail
          go_ret
          exact ⟨rfl, hB9.out⟩
      · have d0 : (decide ((j : Int) < (len1 : Int)) = false ∧ decide (j < len1) = false) ∨ (decide ((j : Int) < (len1 : Int)) = true ∧ decide (j < len1) = true ∧ decide ((j : Int) < 60) = false ∧ decide (j < 60) = false) := by
          by_cases h : j < len1
          · exact .inr ⟨decide_eq_true (by omega), decide_eq_true h, decide_eq_false (by omega), decide_eq_false (by omega)⟩
          · exact .inl ⟨decide_eq_false (by omega), decide_eq_false h⟩
        have kr1 := Lib.hid (kr.out wr hM.out.rd)
        obtain ⟨W, hW⟩ : ∃ W, W = wr := ⟨_, rfl⟩
        subst hW
        clear hjn
        rcases d0 with ⟨d0, d1'⟩ | ⟨d0, d1', d2', d3'⟩
        all_goals
          have _ := d0
          go_wp2_with fail
          go_loopw [12, 13] (fun bv iv wx => wx = W ∧ iv = .int .i64 0 ∧ bv = .bool true) (fun _ iv _ => 0)
          case atStart => first | exact ⟨rfl, rfl, rfl⟩ | exact ⟨trivial, rfl, rfl⟩
          case round =>
            obtain ⟨rfl, rfl, rfl⟩ := hrel
            go_wp2_with fail
            refine kr1.out.mono ?_
            rintro e w5 ⟨rfl, g5⟩
            have hB5 := Lib.hid (RdMid.below_put hB.out g5 hpw (Nat.le_refl _))
            clear g5
            go_wp2_with fail
            go_ret
            exact ⟨rfl, hB5.out⟩
  · go_wp2_with fail
    go_loopw [7, 8] (fun qv iv wr => ∃ j q : Nat, j ≤ len1 ∧ j ≤ 60 ∧ q ≤ 8 * len0 ∧ qv = .int .i64 (q : Nat) ∧ iv = .int .i64 (j : Nat) ∧ Hid (RdMid wr p g c len0 q false D (.slice (some ⟨gb, 0, none⟩) (8 * len0) cb)) ∧ Hid (Below w.heap.size w wr)) (fun _ iv _ => 60 - (intOf iv).toNat)
    case atStart => exact ⟨0, 0, by omega, by omega, by omega, rfl, rfl, hM3, hB3⟩
    case round =>
      obtain ⟨j, q, hj, hj60, hq, rfl, rfl, hM, hB⟩ := hrel
      have e1 : IntKind.i64.wrap (8 * (len0 : Int) - (q : Int)) = 8 * (len0 : Int) - (q : Int) := IntWalk.i64_in _ (by omega)
      have hpv : Hid (Pv wr (some ⟨gb, 0, none⟩) (8 * len0) cb (obF D)) := hide (by obtain ⟨s', c', he, h⟩ := hM.out.row.pv; cases he; exact h)
      have hcb := hpv.out.c0
      have hcb2 := hpv.out.c1
      unfold maxLen at hcb2
      by_cases hjn : j < len1 ∧ j < 60
      · obtain ⟨hj1, hj2⟩ := hjn
        have d2 : decide ((j : Int) < (len1 : Int)) = true := decide_eq_true (by omega)
        have d3 : decide ((j : Int) < 60) = true := decide_eq_true (by omega)
        have kl := Lib.hid (d_left p g c len0 q false D wr hM.out.rd (by omega) hq)
        go_wp2_with fail
        refine kl.out.mono ?_
        rintro e w4 ⟨rfl, x, rfl⟩
        have hM4 := Lib.hid (hM.out.put (hM.out.rd.drewN x) (only_drewN (only_refl wr (some p)) x))
        have hB4 := Lib.hid (below_drewN hB.out x)
        generalize wr.drewN x = w4 at *
        have kb := Lib.hid (d_bad p g c len0 q false D w4 hM4.out.rd)
        go_wp2_with fail
        refine kb.out.mono ?_
        rintro e w5 ⟨rfl, rfl⟩
        obtain ⟨b0, o0, hse, c0, c1, c2⟩ := (hph.out.below hB4.out) j hj1
        subst hse
        cases hg : G j
        · rw [hg] at c2
          clear c0
          obtain ⟨N, hN, hN64⟩ := clampN2 (K j)
          generalize hkk : K j = kk at *
          have hcl := Lib.hid (fun x h => (clamp_mm2 x kk h).trans hN)
          have kg := Lib.hid (fun W (h : RdAt W p g c len0 q false D) (hqn : q + N ≤ 8 * len0) => d_get p g c len0 q D kk W h hDh.out (by omega) N hN hqn)
          have kgn := Lib.hid (fun W (h : RdAt W p g c len0 q false D) (hqn : 8 * len0 < q + N) => d_get_no p g c len0 q false D kk W h (by omega) N hN hq (.inr hqn))
          have hNh := Lib.hid hN
          clear hN
          go_upto_region 22 with (fail)
          go_cut [11] (fun nv wx => nv = .int .i64 (N : Int) ∧ w4 = wx)
          case first =>
            go_wp2_with fail
            all_goals
              go_meet
              exact ⟨congrArg (Value.int .i64) (by have h := hcl.out _ rfl; split at h <;> (try split at h) <;> omega), rfl⟩
          case rest =>
          obtain ⟨rfl, hwc⟩ := hcut
          subst hwc
          have e7 : IntKind.i64.wrap ((q : Int) + (N : Int)) = (q : Int) + (N : Int) := IntWalk.i64_in _ (by omega)
          by_cases hqn : 8 * len0 < q + N
          · have d7 : decide ((q : Int) + (N : Int) > 8 * (len0 : Int)) = true := decide_eq_true (by omega)
            have kg1 := Lib.hid (kgn.out w4 hM4.out.rd hqn)
            go_wp2_with fail
            refine kg1.out.mono ?_
            rintro e w5 ⟨rfl, r5, g5⟩
            have hB5 := Lib.hid (RdMid.below_put hB4.out g5 hpw (Nat.le_refl _))
            have kb5 := Lib.hid (d_bad p g c len0 q true D w5 r5)
            have ky5 := Lib.hid (d_gam_bad p g c len0 q D w5 r5 (by omega) hq)
            clear r5 g5
            go_wp2_with fail
            refine kb5.out.mono ?_
            rintro e w6 ⟨rfl, rfl⟩
            go_wp2_with fail
            refine ky5.out.mono ?_
            rintro e w7 ⟨rfl, r7, g7⟩
            have hB7 := Lib.hid (RdMid.below_put hB5.out g7 hpw (Nat.le_refl _))
            have kr7 := Lib.hid (d_rest_bad p g c len0 q D w7 r7 (by omega) hq)
            clear r7 g7
            go_wp2_with fail
            refine kr7.out.mono ?_
            rintro e w8 ⟨rfl, r8, g8⟩
            have hB8 := Lib.hid (RdMid.below_put hB7.out g8 hpw (Nat.le_refl _))
            clear r8 g8
            go_wp2_with fail
            go_ret
            exact ⟨rfl, hB8.out⟩
          · have d7 : decide ((q : Int) + (N : Int) > 8 * (len0 : Int)) = false := decide_eq_false (by omega)
            have d7' : decide (8 * len0 < q + N) = false := decide_eq_false hqn
            go_upto_region 25 with (fail)
            rcases Nat.lt_or_ge q cb with hqc | hqc
            · skip
              have hin : ∀ x : World, Below w.heap.size w x → x.cell? ⟨b0, o0 + j * 3 + 1, none⟩ = some (.int .i64 kk) := fun x hx => by
                obtain ⟨b9, o9, hse9, _, c9, _⟩ := (hph.out.below hx) j hj1
                cases hse9
                rw [hkk] at c9
                exact c9
              have hinh := Lib.hid hin
              clear hin c1
              have hMd : Hid (RdMid w4.drew p g c len0 q false D (.slice (some ⟨gb, 0, none⟩) (8 * len0) cb)) := hide ⟨⟨hM4.out.rd.st, hM4.out.rd.row, hM4.out.rd.ne⟩, hM4.out.row.below (below_drewN (Below.refl w4.heap.size w4) 1)⟩
              have hBd : Hid (Below w.heap.size w w4.drew) := hide (below_drewN hB4.out 1)
              refine h_begin 15 (fun x => x.cell? ⟨b0, o0 + j * 3 + 1, none⟩ = some (.int .i64 kk)) rfl (by kernel_rfl) (hinh.out _ hBd.out) ?_
              have hHeld : (fun x : World => x.cell? ⟨b0, o0 + j * 3 + 1, none⟩ = some (.int .i64 kk)) w4.drew := hinh.out _ hBd.out
              first
                | (refine h_run (i := 0) (v := ?_) hHeld rfl (by kernel_rfl) (by kernel_rfl) (by kernel_rfl) ?_ ?_ ?_
                   rotate_left
                   · rfl
                   · (intro x hSx; (try dsimp only at hSx); go_simp <;> with_reducible rfl)
                   simp only [Act.put, List.setIfInBounds_toArray, List.set_cons_zero, List.set_cons_succ])
                | (refine h_skip (i := 0) hHeld rfl (by kernel_rfl) (by kernel_rfl) (by kernel_rfl) ?_ ?_
                   · rfl
                   simp only [Act.put, List.setIfInBounds_toArray, List.set_cons_zero, List.set_cons_succ])
              first
                | (refine h_run (i := 1) (v := ?_) hHeld rfl (by kernel_rfl) (by kernel_rfl) (by kernel_rfl) ?_ ?_ ?_
                   rotate_left
                   · rfl
                   · (intro x hSx; (try dsimp only at hSx); go_simp <;> with_reducible rfl)
                   simp only [Act.put, List.setIfInBounds_toArray, List.set_cons_zero, List.set_cons_succ])
                | (refine h_skip (i := 1) hHeld rfl (by kernel_rfl) (by kernel_rfl) (by kernel_rfl) ?_ ?_
                   · rfl
                   simp only [Act.put, List.setIfInBounds_toArray, List.set_cons_zero, List.set_cons_succ])
              first
                | (refine h_run (i := 2) (v := ?_) hHeld rfl (by kernel_rfl) (by kernel_rfl) (by kernel_rfl) ?_ ?_ ?_
                   rotate_left
                   · rfl
                   · (intro x hSx; (try dsimp only at hSx); go_simp <;> with_reducible rfl)
                   simp only [Act.put, List.setIfInBounds_toArray, List.set_cons_zero, List.set_cons_succ])
                | (refine h_skip (i := 2) hHeld rfl (by kernel_rfl) (by kernel_rfl) (by kernel_rfl) ?_ ?_
                   · rfl
                   simp only [Act.put, List.setIfInBounds_toArray, List.set_cons_zero, List.set_cons_succ])
              first
                | (refine h_run (i := 3) (v := ?_) hHeld rfl (by kernel_rfl) (by kernel_rfl) (by kernel_rfl) ?_ ?_ ?_
                   rotate_left
                   · rfl
                   · (intro x hSx; (try dsimp only at hSx); go_simp <;> with_reducible rfl)
                   simp only [Act.put, List.setIfInBounds_toArray, List.set_cons_zero, List.set_cons_succ])
                | (refine h_skip (i := 3) hHeld rfl (by kernel_rfl) (by kernel_rfl) (by kernel_rfl) ?_ ?_
                   · rfl
                   simp only [Act.put, List.setIfInBounds_toArray, List.set_cons_zero, List.set_cons_succ])
              first
                | (refine h_run (i := 4) (v := ?_) hHeld rfl (by kernel_rfl) (by kernel_rfl) (by kernel_rfl) ?_ ?_ ?_
                   rotate_left
                   · rfl
                   · (intro x hSx; (try dsimp only at hSx); go_simp <;> with_reducible rfl)
                   simp only [Act.put, List.setIfInBounds_toArray, List.set_cons_zero, List.set_cons_succ])
                | (refine h_skip (i := 4) hHeld rfl (by kernel_rfl) (by kernel_rfl) (by kernel_rfl) ?_ ?_
                   · rfl
                   simp only [Act.put, List.setIfInBounds_toArray, List.set_cons_zero, List.set_cons_succ])
              first
                | (refine h_run (i := 5) (v := ?_) hHeld rfl (by kernel_rfl) (by kernel_rfl) (by kernel_rfl) ?_ ?_ ?_
                   rotate_left
                   · rfl
                   · (intro x hSx; (try dsimp only at hSx); go_simp <;> with_reducible rfl)
                   simp only [Act.put, List.setIfInBounds_toArray, List.set_cons_zero, List.set_cons_succ])
                | (refine h_skip (i := 5) hHeld rfl (by kernel_rfl) (by kernel_rfl) (by kernel_rfl) ?_ ?_
                   · rfl
                   simp only [Act.put, List.setIfInBounds_toArray, List.set_cons_zero, List.set_cons_succ])
              first
                | (refine h_run (i := 7) (v := ?_) hHeld rfl (by kernel_rfl) (by kernel_rfl) (by kernel_rfl) ?_ ?_ ?_
                   rotate_left
                   · rfl
                   · (intro x hSx; (try dsimp only at hSx); go_simp <;> with_reducible rfl)
                   simp only [Act.put, List.setIfInBounds_toArray, List.set_cons_zero, List.set_cons_succ])
                | (refine h_skip (i := 7) hHeld rfl (by kernel_rfl) (by kernel_rfl) (by kernel_rfl) ?_ ?_
                   · rfl
                   simp only [Act.put, List.setIfInBounds_toArray, List.set_cons_zero, List.set_cons_succ])
              first
                | (refine h_run (i := 8) (v := ?_) hHeld rfl (by kernel_rfl) (by kernel_rfl) (by kernel_rfl) ?_ ?_ ?_
                   rotate_left
                   · rfl
                   · (intro x hSx; (try dsimp only at hSx); go_simp <;> with_reducible rfl)
                   simp only [Act.put, List.setIfInBounds_toArray, List.set_cons_zero, List.set_cons_succ])
                | (refine h_skip (i := 8) hHeld rfl (by kernel_rfl) (by kernel_rfl) (by kernel_rfl) ?_ ?_
                   · rfl
                   simp only [Act.put, List.setIfInBounds_toArray, List.set_cons_zero, List.set_cons_succ])
              first
                | (refine h_run (i := 9) (v := ?_) hHeld rfl (by kernel_rfl) (by kernel_rfl) (by kernel_rfl) ?_ ?_ ?_
                   rotate_left
                   · rfl
                   · (intro x hSx; (try dsimp only at hSx); go_simp <;> with_reducible rfl)
                   simp only [Act.put, List.setIfInBounds_toArray, List.set_cons_zero, List.set_cons_succ])
                | (refine h_skip (i := 9) hHeld rfl (by kernel_rfl) (by kernel_rfl) (by kernel_rfl) ?_ ?_
                   · rfl
                   simp only [Act.put, List.setIfInBounds_toArray, List.set_cons_zero, List.set_cons_succ])
              first
                | (refine h_run (i := 10) (v := ?_) hHeld rfl (by kernel_rfl) (by kernel_rfl) (by kernel_rfl) ?_ ?_ ?_
                   rotate_left
                   · rfl
                   · (intro x hSx; (try dsimp only at hSx); go_simp <;> with_reducible rfl)
                   simp only [Act.put, List.setIfInBounds_toArray, List.set_cons_zero, List.set_cons_succ])
                | (refine h_skip (i := 10) hHeld rfl (by kernel_rfl) (by kernel_rfl) (by kernel_rfl) ?_ ?_
                   · rfl
                   simp only [Act.put, List.setIfInBounds_toArray, List.set_cons_zero, List.set_cons_succ])
              first
                | (refine h_run (i := 11) (v := ?_) hHeld rfl (by kernel_rfl) (by kernel_rfl) (by kernel_rfl) ?_ ?_ ?_
                   rotate_left
                   · rfl
                   · (intro x hSx; (try dsimp only at hSx); go_simp <;> with_reducible rfl)
                   simp only [Act.put, List.setIfInBounds_toArray, List.set_cons_zero, List.set_cons_succ])
                | (refine h_skip (i := 11) hHeld rfl (by kernel_rfl) (by kernel_rfl) (by kernel_rfl) ?_ ?_
                   · rfl
                   simp only [Act.put, List.setIfInBounds_toArray, List.set_cons_zero, List.set_cons_succ])
              have s1 : 0 ≤ (q : Int) + (N : Int) ∧ (q : Int) + (N : Int) ≤ (cb : Int) := ⟨by omega, by omega⟩
              have s2 : q ≤ ((q : Int) + (N : Int)).toNat := by omega
              have s3 : ¬ cb = q := by omega
              have s4 : ((q : Int) + (N : Int)).toNat - q = N := by omega
              have s5 : ((q : Int) + (N : Int)).toNat = q + N := by omega
              have s6 : q + N - q = N := by omega
              refine h_run (i := 12) (v := .slice (some ⟨gb, q, none⟩) N (cb - q)) hHeld rfl (by kernel_rfl) (by kernel_rfl) (by kernel_rfl) ?_ ?_ ?_
              · rfl
              · intro x hSx
                go_simp <;> with_reducible rfl
              simp only [Act.put, List.setIfInBounds_toArray, List.set_cons_zero, List.set_cons_succ]
              clear hHeld
              refine h_call (i := 6) (fun x => x.cell? ⟨b0, o0 + j * 3 + 1, none⟩ = some (.int .i64 kk)) (fun _ h => h) (kg.out w4.drew hMd.out.rd (by omega)) rfl (by kernel_rfl) rfl ?_ ?_
              · go_simp <;> with_reducible rfl
              rintro e w5 ⟨rfl, r5, g5⟩
              have hM5 := Lib.hid (hMd.out.put r5 g5)
              have hB5 := Lib.hid (RdMid.below_put hBd.out g5 hpw (Nat.le_refl _))
              have hpv5 : Hid (Pv w5 (some ⟨gb, 0, none⟩) (8 * len0) cb (obF D)) := hide (by obtain ⟨s', c', he, h⟩ := hM5.out.row.pv; cases he; exact h)
              refine ⟨_, rfl, hinh.out w5 hB5.out, ?_⟩
              simp only [Act.put, List.setIfInBounds_toArray, List.set_cons_zero, List.set_cons_succ]
              have kt5 := Lib.hid (dr_number (some ⟨gb, q, none⟩) N (cb - q) (fun i => obF D (q + i)) w5 (by have := hpv5.out.rd.part gb 0 rfl q N (by omega); rwa [Nat.zero_add] at this) (bit_shift (fun i => ob_bit D i) q) hN64)
              rw [nu_shift, Nat.add_zero] at kt5
              refine h_call (i := 13) (fun x => x.cell? ⟨b0, o0 + j * 3 + 1, none⟩ = some (.int .i64 kk)) (fun _ h => h) kt5.out rfl (by kernel_rfl) rfl ?_ ?_
              · go_simp <;> with_reducible rfl
              rintro e w6 ⟨rfl, rfl⟩
              refine ⟨_, rfl, hinh.out w5 hB5.out, ?_⟩
              simp only [Act.put, List.setIfInBounds_toArray, List.set_cons_zero, List.set_cons_succ]
              have hHeld : (fun x : World => x.cell? ⟨b0, o0 + j * 3 + 1, none⟩ = some (.int .i64 kk)) w5 := hinh.out w5 hB5.out
              clear r5 g5 kt5 hpv5 kg
              generalize nuF (obF D) q N = y at *
              first
                | (refine h_run (i := 14) (v := ?_) hHeld rfl (by kernel_rfl) (by kernel_rfl) (by kernel_rfl) ?_ ?_ ?_
                   rotate_left
                   · rfl
                   · (intro x hSx; (try dsimp only at hSx); go_simp <;> with_reducible rfl)
                   simp only [Act.put, List.setIfInBounds_toArray, List.set_cons_zero, List.set_cons_succ])
                | (refine h_skip (i := 14) hHeld rfl (by kernel_rfl) (by kernel_rfl) (by kernel_rfl) ?_ ?_
                   · rfl
                   simp only [Act.put, List.setIfInBounds_toArray, List.set_cons_zero, List.set_cons_succ])
              clear hHeld
              refine h_done (by kernel_rfl) ?_
              go_wp2_with fail
              go_roundw
              case rel => exact ⟨j + 1, q + N, by omega, by omega, by omega, by go_num, by go_num, hM5, hB5⟩
              case measure => simp [intOf]; omega
            · have hN0 : N = 0 := by omega
              subst hN0
              have hq0 : cb = q := by omega
              subst hq0
              have hin : ∀ x : World, Below w.heap.size w x → x.cell? ⟨b0, o0 + j * 3 + 1, none⟩ = some (.int .i64 kk) := fun x hx => by
                obtain ⟨b9, o9, hse9, _, c9, _⟩ := (hph.out.below hx) j hj1
                cases hse9
                rw [hkk] at c9
                exact c9
              have hinh := Lib.hid hin
              have hz0 : ((0 : Nat) : Int) = 0 := rfl
              rw [hz0] at e7 ⊢
              clear hin c1
              have hMd : Hid (RdMid w4.drew p g c len0 cb false D (.slice (some ⟨gb, 0, none⟩) (8 * len0) cb)) := hide ⟨⟨hM4.out.rd.st, hM4.out.rd.row, hM4.out.rd.ne⟩, hM4.out.row.below (below_drewN (Below.refl w4.heap.size w4) 1)⟩
              have hBd : Hid (Below w.heap.size w w4.drew) := hide (below_drewN hB4.out 1)
              refine h_begin 15 (fun x => x.cell? ⟨b0, o0 + j * 3 + 1, none⟩ = some (.int .i64 kk)) rfl (by kernel_rfl) (hinh.out _ hBd.out) ?_
              have hHeld : (fun x : World => x.cell? ⟨b0, o0 + j * 3 + 1, none⟩ = some (.int .i64 kk)) w4.drew := hinh.out _ hBd.out
              first
                | (refine h_run (i := 0) (v := ?_) hHeld rfl (by kernel_rfl) (by kernel_rfl) (by kernel_rfl) ?_ ?_ ?_
                   rotate_left
                   · rfl
                   · (intro x hSx; (try dsimp only at hSx); go_simp <;> with_reducible rfl)
                   simp only [Act.put, List.setIfInBounds_toArray, List.set_cons_zero, List.set_cons_succ])
                | (refine h_skip (i := 0) hHeld rfl (by kernel_rfl) (by kernel_rfl) (by kernel_rfl) ?_ ?_
                   · rfl
                   simp only [Act.put, List.setIfInBounds_toArray, List.set_cons_zero, List.set_cons_succ])
              first
                | (refine h_run (i := 1) (v := ?_) hHeld rfl (by kernel_rfl) (by kernel_rfl) (by kernel_rfl) ?_ ?_ ?_
                   rotate_left
                   · rfl
                   · (intro x hSx; (try dsimp only at hSx); go_simp <;> with_reducible rfl)
                   simp only [Act.put, List.setIfInBounds_toArray, List.set_cons_zero, List.set_cons_succ])
                | (refine h_skip (i := 1) hHeld rfl (by kernel_rfl) (by kernel_rfl) (by kernel_rfl) ?_ ?_
                   · rfl
                   simp only [Act.put, List.setIfInBounds_toArray, List.set_cons_zero, List.set_cons_succ])
              first
                | (refine h_run (i := 2) (v := ?_) hHeld rfl (by kernel_rfl) (by kernel_rfl) (by kernel_rfl) ?_ ?_ ?_
                   rotate_left
                   · rfl
                   · (intro x hSx; (try dsimp only at hSx); go_simp <;> with_reducible rfl)
                   simp only [Act.put, List.setIfInBounds_toArray, List.set_cons_zero, List.set_cons_succ])
                | (refine h_skip (i := 2) hHeld rfl (by kernel_rfl) (by kernel_rfl) (by kernel_rfl) ?_ ?_
                   · rfl
                   simp only [Act.put, List.setIfInBounds_toArray, List.set_cons_zero, List.set_cons_succ])
              first
                | (refine h_run (i := 3) (v := ?_) hHeld rfl (by kernel_rfl) (by kernel_rfl) (by kernel_rfl) ?_ ?_ ?_
                   rotate_left
                   · rfl
                   · (intro x hSx; (try dsimp only at hSx); go_simp <;> with_reducible rfl)
                   simp only [Act.put, List.setIfInBounds_toArray, List.set_cons_zero, List.set_cons_succ])
                | (refine h_skip (i := 3) hHeld rfl (by kernel_rfl) (by kernel_rfl) (by kernel_rfl) ?_ ?_
                   · rfl
                   simp only [Act.put, List.setIfInBounds_toArray, List.set_cons_zero, List.set_cons_succ])
              first
                | (refine h_run (i := 4) (v := ?_) hHeld rfl (by kernel_rfl) (by kernel_rfl) (by kernel_rfl) ?_ ?_ ?_
                   rotate_left
                   · rfl
                   · (intro x hSx; (try dsimp only at hSx); go_simp <;> with_reducible rfl)
                   simp only [Act.put, List.setIfInBounds_toArray, List.set_cons_zero, List.set_cons_succ])
                | (refine h_skip (i := 4) hHeld rfl (by kernel_rfl) (by kernel_rfl) (by kernel_rfl) ?_ ?_
                   · rfl
                   simp only [Act.put, List.setIfInBounds_toArray, List.set_cons_zero, List.set_cons_succ])
              first
                | (refine h_run (i := 5) (v := ?_) hHeld rfl (by kernel_rfl) (by kernel_rfl) (by kernel_rfl) ?_ ?_ ?_
                   rotate_left
                   · rfl
                   · (intro x hSx; (try dsimp only at hSx); go_simp <;> with_reducible rfl)
                   simp only [Act.put, List.setIfInBounds_toArray, List.set_cons_zero, List.set_cons_succ])
                | (refine h_skip (i := 5) hHeld rfl (by kernel_rfl) (by kernel_rfl) (by kernel_rfl) ?_ ?_
                   · rfl
                   simp only [Act.put, List.setIfInBounds_toArray, List.set_cons_zero, List.set_cons_succ])
              first
                | (refine h_run (i := 7) (v := ?_) hHeld rfl (by kernel_rfl) (by kernel_rfl) (by kernel_rfl) ?_ ?_ ?_
                   rotate_left
                   · rfl
                   · (intro x hSx; (try dsimp only at hSx); go_simp <;> with_reducible rfl)
                   simp only [Act.put, List.setIfInBounds_toArray, List.set_cons_zero, List.set_cons_succ])
                | (refine h_skip (i := 7) hHeld rfl (by kernel_rfl) (by kernel_rfl) (by kernel_rfl) ?_ ?_
                   · rfl
                   simp only [Act.put, List.setIfInBounds_toArray, List.set_cons_zero, List.set_cons_succ])
              first
                | (refine h_run (i := 8) (v := ?_) hHeld rfl (by kernel_rfl) (by kernel_rfl) (by kernel_rfl) ?_ ?_ ?_
                   rotate_left
                   · rfl
                   · (intro x hSx; (try dsimp only at hSx); go_simp <;> with_reducible rfl)
                   simp only [Act.put, List.setIfInBounds_toArray, List.set_cons_zero, List.set_cons_succ])
                | (refine h_skip (i := 8) hHeld rfl (by kernel_rfl) (by kernel_rfl) (by kernel_rfl) ?_ ?_
                   · rfl
                   simp only [Act.put, List.setIfInBounds_toArray, List.set_cons_zero, List.set_cons_succ])
              first
                | (refine h_run (i := 9) (v := ?_) hHeld rfl (by kernel_rfl) (by kernel_rfl) (by kernel_rfl) ?_ ?_ ?_
                   rotate_left
                   · rfl
                   · (intro x hSx; (try dsimp only at hSx); go_simp <;> with_reducible rfl)
                   simp only [Act.put, List.setIfInBounds_toArray, List.set_cons_zero, List.set_cons_succ])
                | (refine h_skip (i := 9) hHeld rfl (by kernel_rfl) (by kernel_rfl) (by kernel_rfl) ?_ ?_
                   · rfl
                   simp only [Act.put, List.setIfInBounds_toArray, List.set_cons_zero, List.set_cons_succ])
              first
                | (refine h_run (i := 10) (v := ?_) hHeld rfl (by kernel_rfl) (by kernel_rfl) (by kernel_rfl) ?_ ?_ ?_
                   rotate_left
                   · rfl
                   · (intro x hSx; (try dsimp only at hSx); go_simp <;> with_reducible rfl)
                   simp only [Act.put, List.setIfInBounds_toArray, List.set_cons_zero, List.set_cons_succ])
                | (refine h_skip (i := 10) hHeld rfl (by kernel_rfl) (by kernel_rfl) (by kernel_rfl) ?_ ?_
                   · rfl
                   simp only [Act.put, List.setIfInBounds_toArray, List.set_cons_zero, List.set_cons_succ])
              first
                | (refine h_run (i := 11) (v := ?_) hHeld rfl (by kernel_rfl) (by kernel_rfl) (by kernel_rfl) ?_ ?_ ?_
                   rotate_left
                   · rfl
                   · (intro x hSx; (try dsimp only at hSx); go_simp <;> with_reducible rfl)
                   simp only [Act.put, List.setIfInBounds_toArray, List.set_cons_zero, List.set_cons_succ])
                | (refine h_skip (i := 11) hHeld rfl (by kernel_rfl) (by kernel_rfl) (by kernel_rfl) ?_ ?_
                   · rfl
                   simp only [Act.put, List.setIfInBounds_toArray, List.set_cons_zero, List.set_cons_succ])
              have e8 : IntKind.i64.wrap (cb : Int) = (cb : Int) := IntWalk.i64_in _ (by omega)
              have s1 : 0 ≤ (cb : Int) := by omega
              refine h_run (i := 12) (v := .slice (some ⟨gb, 0, none⟩) 0 0) hHeld rfl (by kernel_rfl) (by kernel_rfl) (by kernel_rfl) ?_ ?_ ?_
              · rfl
              · intro x hSx
                go_simp <;> with_reducible rfl
              simp only [Act.put, List.setIfInBounds_toArray, List.set_cons_zero, List.set_cons_succ]
              clear hHeld
              refine h_call (i := 6) (fun x => x.cell? ⟨b0, o0 + j * 3 + 1, none⟩ = some (.int .i64 kk)) (fun _ h => h) (kg.out w4.drew hMd.out.rd (by omega)) rfl (by kernel_rfl) rfl ?_ ?_
              · go_simp <;> with_reducible rfl
              rintro e w5 ⟨rfl, r5, g5⟩
              have hM5 := Lib.hid (hMd.out.put r5 g5)
              have hB5 := Lib.hid (RdMid.below_put hBd.out g5 hpw (Nat.le_refl _))
              have hpv5 : Hid (Pv w5 (some ⟨gb, 0, none⟩) (8 * len0) cb (obF D)) := hide (by obtain ⟨s', c', he, h⟩ := hM5.out.row.pv; cases he; exact h)
              refine ⟨_, rfl, hinh.out w5 hB5.out, ?_⟩
              simp only [Act.put, List.setIfInBounds_toArray, List.set_cons_zero, List.set_cons_succ]
              have kt5 := Lib.hid (dr_number (some ⟨gb, 0, none⟩) 0 0 (fun i => obF D (cb + i)) w5 (fun i hi => absurd hi (by omega)) (bit_shift (fun i => ob_bit D i) cb) (by omega))
              rw [nu_shift, Nat.add_zero] at kt5
              refine h_call (i := 13) (fun x => x.cell? ⟨b0, o0 + j * 3 + 1, none⟩ = some (.int .i64 kk)) (fun _ h => h) kt5.out rfl (by kernel_rfl) rfl ?_ ?_
              · go_simp <;> with_reducible rfl
              rintro e w6 ⟨rfl, rfl⟩
              refine ⟨_, rfl, hinh.out w5 hB5.out, ?_⟩
              simp only [Act.put, List.setIfInBounds_toArray, List.set_cons_zero, List.set_cons_succ]
              have hHeld : (fun x : World => x.cell? ⟨b0, o0 + j * 3 + 1, none⟩ = some (.int .i64 kk)) w5 := hinh.out w5 hB5.out
              clear r5 g5 kt5 hpv5 kg
              generalize nuF (obF D) cb 0 = y at *
              first
                | (refine h_run (i := 14) (v := ?_) hHeld rfl (by kernel_rfl) (by kernel_rfl) (by kernel_rfl) ?_ ?_ ?_
                   rotate_left
                   · rfl
                   · (intro x hSx; (try dsimp only at hSx); go_simp <;> with_reducible rfl)
                   simp only [Act.put, List.setIfInBounds_toArray, List.set_cons_zero, List.set_cons_succ])
                | (refine h_skip (i := 14) hHeld rfl (by kernel_rfl) (by kernel_rfl) (by kernel_rfl) ?_ ?_
                   · rfl
                   simp only [Act.put, List.setIfInBounds_toArray, List.set_cons_zero, List.set_cons_succ])
              clear hHeld
              refine h_done (by kernel_rfl) ?_
              go_wp2_with fail
              go_roundw
              case rel => exact ⟨j + 1, cb, by omega, by omega, by omega, by go_num, by go_num, hM5, hB5⟩
              case measure => simp [intOf]; omega
        · rw [hg] at c2
          clear c0 c1
          obtain ⟨m, hm1, hm2, hm3⟩ := zeros (obF D) (fun j => ob_bit D j) (8 * len0) q hq
          have hpv4 : Hid (Pv w4 (some ⟨gb, 0, none⟩) (8 * len0) cb (obF D)) := hide (by obtain ⟨s', c', he, h⟩ := hM4.out.row.pv; cases he; exact h)
          by_cases hyes : m ≤ 63 ∧ q + 2 * m + 1 ≤ 8 * len0 ∧ obF D (q + m) = 1
          · obtain ⟨y1, y2, y3⟩ := hyes
            have hqc : q < cb := by omega
            have kt := Lib.hid (dr_take_yes (some ⟨gb, q, none⟩) (8 * len0 - q) (cb - q) m (fun j => obF D (q + j)) w4 ⟨by have := hpv4.out.rd.part gb 0 rfl q (8 * len0 - q) (by omega); rwa [Nat.zero_add] at this, (fun e => by cases e), by omega, by unfold maxLen; omega⟩ (bit_shift (fun j => ob_bit D j) q) hm2 y3 y1 (by omega) (by omega))
            rw [nu_shift] at kt
            have ky := Lib.hid (d_gam_yes p g c len0 q m D w4 hM4.out.rd hDh.out (by omega) hm2 y3 y1 y2)
            have hbs := nu_63 (obF D) (fun j => ob_bit D j) (q + m) (m + 1)
            have hone : (2 * (m : Int) + 1 == 0) = false := by simp; omega
            clear hm2 hm3 hbs y3
            generalize nuF (obF D) (q + m) (m + 1) = y at *
            have e5 : IntKind.i64.wrap ((q : Int) + (2 * (m : Int) + 1)) = (q : Int) + (2 * (m : Int) + 1) := IntWalk.i64_in _ (by omega)
            go_wp2_with fail
            refine kt.out.mono ?_
            rintro e w5 ⟨rfl, rfl⟩
            go_wp2_with fail
            refine ky.out.mono ?_
            rintro e w6 ⟨rfl, r6, g6⟩
            have hM6 := Lib.hid (hM4.out.put r6 g6)
            have hB6 := Lib.hid (RdMid.below_put hB4.out g6 hpw (Nat.le_refl _))
            clear r6 g6
            go_wp2_with fail
            go_roundw
            case rel => exact ⟨j + 1, q + 2 * m + 1, by omega, by omega, by omega, by go_num, by go_num, hM6, hB6⟩
            case measure => simp [intOf]; omega
          · have hz6 : ∃ n, q + n ≤ 8 * len0 ∧ n ≤ m ∧ ((q + n = 8 * len0 ∧ n ≤ 63) ∨ n = 64 ∨ (obF D (q + n) = 1 ∧ n ≤ 63 ∧ q + n < 8 * len0 ∧ 8 * len0 < q + 2 * n + 1)) := by
              by_cases h63 : 63 < m
              · exact ⟨64, by omega, by omega, .inr (.inl rfl)⟩
              · rcases hm3 with h | ⟨h, h1⟩
                · exact ⟨m, hm1, Nat.le_refl _, .inl ⟨h, by omega⟩⟩
                · refine ⟨m, hm1, Nat.le_refl _, .inr (.inr ⟨h1, by omega, h, ?_⟩)⟩
                  have := fun h2 => hyes ⟨by omega, h2, h1⟩
                  omega
            obtain ⟨n, hn1, hn2, hn3⟩ := hz6
            have kf := Lib.hid (d_gam_no p g c len0 q n D w4 hM4.out.rd hDh.out (by omega) (fun j hj => hm2 j (by omega)) hn1 hn3)
            have kt := Lib.hid (fun s' c' (h : Pv w4 s' (8 * len0 - q) c' (fun j => obF D (q + j))) => dr_take_no s' (8 * len0 - q) c' m (fun j => obF D (q + j)) w4 h hm2 (by omega) (by rcases hm3 with h | ⟨h, h1⟩; exact .inl (by omega); exact .inr ⟨by omega, h1⟩) (by
              by_cases h63 : 63 < m
              · exact .inl h63
              · right
                rcases hm3 with h | ⟨h, h1⟩
                · omega
                · have := fun h2 => hyes ⟨by omega, h2, h1⟩
                  omega) (by omega))
            have kb2 := Lib.hid (fun q2 W (h : RdAt W p g c len0 q2 true D) => d_bad p g c len0 q2 true D W h)
            have kr2 := Lib.hid (fun q2 W (h : RdAt W p g c len0 q2 true D) (hq2 : q2 ≤ 8 * len0) => d_rest_bad p g c len0 q2 D W h (by omega) hq2)
            have kg2 := Lib.hid (fun q2 W (h : RdAt W p g c len0 q2 true D) (hq2 : q2 ≤ 8 * len0) => d_get_no p g c len0 q2 true D 0 W h (by omega) 0 (by decide) hq2 (.inl rfl))
            clear hm2 hm3 hyes hn3 hn1 hn2 hm1
            rcases Nat.lt_or_ge q cb with hqc | hqc
            · have kt1 := Lib.hid (kt.out (some ⟨gb, q, none⟩) (cb - q) ⟨by have := hpv4.out.rd.part gb 0 rfl q (8 * len0 - q) (by omega); rwa [Nat.zero_add] at this, (fun e => by cases e), by omega, by unfold maxLen; omega⟩)
              clear kt
              go_wp2_with fail
              refine kt1.out.mono ?_
              rintro e w5 ⟨rfl, rfl⟩
              go_wp2_with fail
              refine kf.out.mono ?_
              rintro e w6 ⟨q2, hq2, rfl, r6, g6⟩
              have hB6 := Lib.hid (RdMid.below_put hB4.out g6 hpw (Nat.le_refl _))
              have kb3 := Lib.hid (kb2.out q2 w6 r6)
              have kr3 := Lib.hid (kr2.out q2 w6 r6 hq2)
              clear r6 g6
              go_wp2_with fail
              refine kb3.out.mono ?_
              rintro e w7 ⟨rfl, rfl⟩
              go_wp2_with fail
              refine kr3.out.mono ?_
              rintro e w8 ⟨rfl, r8, g8⟩
              have hB8 := Lib.hid (RdMid.below_put hB6.out g8 hpw (Nat.le_refl _))
              have kg3 := Lib.hid (kg2.out q2 w8 r8 hq2)
              clear r8 g8
              go_wp2_with fail
              refine kg3.out.mono ?_
              rintro e w9 ⟨rfl, r9, g9⟩
              have hB9 := Lib.hid (RdMid.below_put hB8.out g9 hpw (Nat.le_refl _))
              clear r9 g9
              go_wp2_with fail
              go_ret
              exact ⟨rfl, hB9.out⟩
            · have hq0 : cb = q := by omega
              subst hq0
              have h00 : 8 * len0 - cb = 0 := by omega
              rw [h00] at kt
              have kt1 := Lib.hid (kt.out (some ⟨gb, 0, none⟩) 0 ⟨fun i hi => absurd hi (by omega), (fun e => by cases e), by omega, by unfold maxLen; omega⟩)
              clear kt
              go_wp2_with fail
              refine kt1.out.mono ?_
              rintro e w5 ⟨rfl, rfl⟩
              go_wp2_with fail
              refine kf.out.mono ?_
              rintro e w6 ⟨q2, hq2, rfl, r6, g6⟩
              have hB6 := Lib.hid (RdMid.below_put hB4.out g6 hpw (Nat.le_refl _))
              have kb3 := Lib.hid (kb2.out q2 w6 r6)
              have kr3 := Lib.hid (kr2.out q2 w6 r6 hq2)
              clear r6 g6
              go_wp2_with fail
              refine kb3.out.mono ?_
              rintro e w7 ⟨rfl, rfl⟩
              go_wp2_with fail
              refine kr3.out.mono ?_
              rintro e w8 ⟨rfl, r8, g8⟩
              have hB8 := Lib.hid (RdMid.below_put hB6.out g8 hpw (Nat.le_refl _))
              have kg3 := Lib.hid (kg2.out q2 w8 r8 hq2)
              clear r8 g8
              go_wp2_with fail
              refine kg3.out.mono ?_
              rintro e w9 ⟨rfl, r9, g9⟩
              have hB9 := Lib.hid (RdMid.below_put hB8.out g9 hpw (Nat.le_refl _))
              clear r9 g9
              go_wp2_with fail
              go_ret
              exact ⟨rfl, hB9.out⟩
      · have d0 : (decide ((j : Int) < (len1 : Int)) = false ∧ decide (j < len1) = false) ∨ (decide ((j : Int) < (len1 : Int)) = true ∧ decide (j < len1) = true ∧ decide ((j : Int) < 60) = false ∧ decide (j < 60) = false) := by
          by_cases h : j < len1
          · exact .inr ⟨decide_eq_true (by omega), decide_eq_true h, decide_eq_false (by omega), decide_eq_false (by omega)⟩
          · exact .inl ⟨decide_eq_false (by omega), decide_eq_false h⟩
        have hk0 : decide (8 * (len0 : Int) - (q : Int) < 8) = rsK D len0 q 0 := by
          rw [rsK_0]
          by_cases h : 8 * len0 < q + 8
          · rw [decide_eq_true h]; exact decide_eq_true (by omega)
          · rw [decide_eq_false h]; exact decide_eq_false (by omega)
        have hn0 := Lib.hid (fun k h => rsK_next0 D len0 q k h)
        have hn1 := Lib.hid (fun k h => rsK_next1 D len0 q k h)
        have hnf := Lib.hid (fun k h => rsK_off D len0 q k h)
        have hne := Lib.hid (rsK_end D len0 q)
        have hob := Lib.hid (fun k => ob_bit D k)
        have kr := Lib.hid (d_rest p g c len0 q D wr hM.out.rd hDh.out (by omega) hq)
        obtain ⟨W, hW⟩ : ∃ W, W = wr := ⟨_, rfl⟩
        subst hW
        clear hjn
        rcases d0 with ⟨d0, d1'⟩ | ⟨d0, d1', d2', d3'⟩
        all_goals
          have _ := d0
          go_wp2_with fail
          go_loopw [12, 13] (fun bv iv wx => wx = W ∧ ∃ k : Nat, q + k ≤ 8 * len0 ∧ iv = .int .i64 ((q : Int) + (k : Int)) ∧ bv = .bool (rsK D len0 q k)) (fun _ iv _ => 8 * len0 - (intOf iv).toNat)
          case atStart => first | exact ⟨rfl, 0, by omega, by go_num, by first | rfl | (rw [hk0])⟩ | exact ⟨trivial, 0, by omega, by go_num, by first | rfl | (rw [hk0])⟩
          case round =>
            obtain ⟨rfl, k, hk, rfl, rfl⟩ := hrel
            by_cases hlt : q + k < 8 * len0
            · have d5 : decide ((q : Int) + (k : Int) < 8 * (len0 : Int)) = true := decide_eq_true (by omega)
              obtain ⟨b0, o0, hse, c0⟩ := hpv.out.rd (q + k) hlt
              cases hse
              rw [Nat.zero_add] at c0
              have hb := hob.out (q + k)
              have hb0 := hn0.out k
              have hb1 := hn1.out k
              have hbf := hnf.out k
              obtain ⟨b, hbb⟩ : ∃ b, obF D (q + k) = b := ⟨_, rfl⟩
              rw [hbb] at c0 hb hb0 hb1
              obtain ⟨r, hr⟩ : ∃ r, rsK D len0 q k = r := ⟨_, rfl⟩
              rw [hr] at hb0 hbf ⊢
              have q1 : IntKind.i64.wrap ((q : Int) + (k : Int)) = (q : Int) + (k : Int) := IntWalk.i64_in _ (by omega)
              have q2 : ((q : Int) + (k : Int)).toNat = q + k := by omega
              have q3 : 0 ≤ (q : Int) + (k : Int) := by omega
              cases r
              · have hx := hbf rfl
                have hxh := Lib.hid hx
                clear hx hb0 hb1 hbf
                go_wp2_with fail
                go_roundw
                case rel => first | exact ⟨rfl, k + 1, by omega, by go_num, by rw [hxh.out]⟩ | exact ⟨trivial, k + 1, by omega, by go_num, by rw [hxh.out]⟩
                case measure => simp [intOf]; omega
              · rcases (show b = 0 ∨ b = 1 by omega) with rfl | rfl
                · have hxh := Lib.hid (hb0 rfl)
                  clear hb0 hb1 hbf
                  go_wp2_with fail
                  go_roundw
                  case rel => first | exact ⟨rfl, k + 1, by omega, by go_num, by rw [hxh.out]⟩ | exact ⟨trivial, k + 1, by omega, by go_num, by rw [hxh.out]⟩
                  case measure => simp [intOf]; omega
                · have hxh := Lib.hid (hb1 rfl)
                  clear hb0 hb1 hbf
                  go_wp2_with fail
                  go_roundw
                  case rel => first | exact ⟨rfl, k + 1, by omega, by go_num, by rw [hxh.out]⟩ | exact ⟨trivial, k + 1, by omega, by go_num, by rw [hxh.out]⟩
                  case measure => simp [intOf]; omega
            · have d5 : decide ((q : Int) + (k : Int) < 8 * (len0 : Int)) = false := decide_eq_false (by omega)
              have hk8 : k = 8 * len0 - q := by omega
              subst hk8
              rw [hne.out]
              generalize rsB D len0 q = r at *
              go_wp2_with fail
              refine kr.out.mono ?_
              rintro e w5 ⟨rfl, g5⟩
              have hB5 := Lib.hid (RdMid.below_put hB.out g5 hpw (Nat.le_refl _))
              clear g5
              cases r
              all_goals
                have _ := hB5
                go_wp2_with fail
                go_ret
                exact ⟨rfl, hB5.out⟩
end Go.Proofs.Ytdpmhfpoendooaa

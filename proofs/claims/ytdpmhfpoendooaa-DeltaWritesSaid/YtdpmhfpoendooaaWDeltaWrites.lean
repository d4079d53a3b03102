/- The walk of the law DeltaWrites: it answers true for every list of pieces. -/
import Derived.Test.YtdpmhfpoendooaaDeltaMid
namespace Go.Proofs.Ytdpmhfpoendooaa
open Go.RowKit
theorem mid_new (w : World) : Mid (w.alloc (.cells #[.slice none 0 0, .int .i64 0] 31)) w.heap.size none 0 0 (fun _ => 0) (.slice none 0 0) 0 (fun _ => 0) :=
  ⟨wr_new w, OwnB.nil _ _ _, fun b hb => by cases hb⟩
theorem gmN_le (v : Nat) (h : v < 18446744073709551616) : gmN v ≤ 127 := by have := nb_max v 64 (by omega); unfold gmN; omega
theorem clampN (k : Int) : ∃ N : Nat, clampZ k 0 64 = (N : Int) ∧ N ≤ 64 := by
  have := clampZ_bd k 0 64 (by omega)
  exact ⟨(clampZ k 0 64).toNat, by omega, by omega⟩
theorem d_put_any (p : Nat) (s : Option Addr) (c n v N : Nat) (k : Int) (β : Nat → Nat) (w : World) (hw : WrAt w p s c n β) (hz : Zb n β) (hb : Bit β) (hv : v < 18446744073709551616) (hn : n ≤ 10000000) (hN : clampZ k 0 64 = (N : Int)) :
    Calls Try.prog 12 #[.pointer (some ⟨p, 0, none⟩), .int .u64 (v : Nat), .int .i64 k] w (PutPost w p s c n (n + N) (ctF β n (bsF v N) N)) := by
  rw [← ap_ct]
  exact d_put p s c n v k β w hw hz hb hv hn N hN
attribute [local irreducible] OwnB byF apF bitF putF ctF bsF gmF gmN nbF chF chN enN enB dlF lastF pxF catF
set_option maxRecDepth 100000 in
set_option maxHeartbeats 2000000 in
theorem deltaWrites_walk (a0 : Option Addr) (len0 cap0 : Nat) (w : World) (w0 : IsRec [some .u64, some .i64, none] w a0 len0 cap0) :
    Calls Try.prog 4 #[.slice a0 len0 cap0] w fun e w' => e = .returned (.bool true) ∧ Below w.heap.size w w' := by
  obtain ⟨V, K, G, hp, hV⟩ := pc_open w0
  have hln : len0 ≤ 9223372036854775807 := by obtain ⟨_, _, _, h1, h2, _⟩ := w0; unfold maxLen at h2; omega
  have hph := Lib.hid hp
  have hVh := Lib.hid hV
  clear w0 hp hV
  have kg := Lib.hid (fun v hv p s c n β W h hz hb hn => d_gamma_all p s c n v β W h hz hb hv hn)
  have kr := Lib.hid (fun v hv W => dr_gamma v W hv)
  have kp := Lib.hid (fun v hv k N hN p s c n β W h hz hb hn => d_put_any p s c n v N k β W h hz hb hv hn hN)
  have kb := Lib.hid (fun v k N hN W => dr_bits v k W N hN)
  have kl := Lib.hid (fun p s c n β W h => d_len p s c n β W h)
  go_enter Try.func4, Try.ntmps4
  go_wp2_with fail
  refine (de_awake w).mono ?_
  rintro e w1 ⟨rfl, hb1⟩
  have hmid0 := Lib.hid (mid_new w1)
  have hB0 := Lib.hid (hb1.trans ((below_new1 w1 (.cells #[.slice none 0 0, .int .i64 0] 31)).mono hb1.size))
  have hpw := hb1.size
  clear hb1
  go_wp2_with fail
  generalize w1.heap.size = p at *
  go_loopw [4, 5] (fun bv iv wr => ∃ (j n : Nat) (s : Option Addr) (c : Nat) (β : Nat → Nat), j ≤ len0 ∧ j ≤ 60 ∧ n ≤ 127 * j ∧ iv = .int .i64 (j : Nat) ∧ Hid (Mid wr p s c n β bv n β) ∧ Hid (Zb n β) ∧ Hid (Bit β) ∧ Hid (Below w.heap.size w wr)) (fun _ iv _ => 60 - (intOf iv).toNat)
  case atStart => exact ⟨0, 0, none, 0, fun _ => 0, by omega, by omega, by omega, rfl, hmid0, hide (fun _ _ => rfl), hide (fun _ => Nat.zero_le _), hB0⟩
  case round =>
    obtain ⟨j, n, s, c, β, hj, hj60, hn, rfl, hM, hz, hbt, hB⟩ := hrel
    obtain ⟨t, d, rfl, _⟩ := hM.out.open
    by_cases hjn : j < len0 ∧ j < 60
    · obtain ⟨hj1, hj2⟩ := hjn
      have d0 : decide ((j : Int) < (len0 : Int)) = true := decide_eq_true (by omega)
      have d1 : decide ((j : Int) < 60) = true := decide_eq_true (by omega)
      have hpc := Lib.hid (hph.out.below hB.out)
      obtain ⟨b0, o0, hse, c0, c1, c2⟩ := hpc.out j hj1
      subst hse
      have hv := hVh.out j
      generalize hvv : V j = v at *
      cases hg : G j
      · rw [hg] at c2
        obtain ⟨m, hN, hgl⟩ := clampN (K j)
        generalize hkk : K j = k at *
        have hMd : Hid (Mid wr.drew p s c n β (.slice t n d) n β) := hide (hM.out.below (below_drewN (Below.refl wr.heap.size wr) 1))
        have hBd : Hid (Below w.heap.size w wr.drew) := hide (below_drewN hB.out 1)
        have kg1 := Lib.hid (kp.out v hv k m hN p s c n β wr.drew hMd.out.wr hz.out hbt.out (by omega))
        have hgb := Lib.hid (fun j => bs_bit v m j)
        have kr1 := Lib.hid (kb.out v k m hN)
        generalize bsF v m = γ at *
        go_upto_region 11 with (fail)
        go_still_tail 10, (by kernel_rfl)
        go_wp2_with fail
        refine kg1.out.mono ?_
        intro e w2 hpp
        obtain ⟨rfl, s2, c2', hM2, hB2⟩ := hMd.out.put hpp
        have hB2' := Lib.hid (hB2 _ _ hBd.out (by omega))
        have hM2h := Lib.hid hM2
        clear hpp hB2 hM2 c0 c1 c2
        obtain ⟨b1, o1, hse, c0, c1, c2⟩ := (hph.out.below hB2'.out) j hj1
        cases hse
        rw [hvv] at c0
        rw [hkk] at c1
        clear c2
        go_upto_region 12 with (fail)
        have hM2d : Hid (Mid w2.drew p s2 c2' (n + m) (ctF β n γ m) (.slice t n d) n β) := hide (hM2h.out.below (below_drewN (Below.refl w2.heap.size w2) 1))
        have hB2d : Hid (Below w.heap.size w w2.drew) := hide (below_drewN hB2'.out 1)
        refine h_begin 14 (fun x => x.cell? ⟨b0, o0 + j * 3, none⟩ = some (.int .u64 (v : Nat)) ∧ x.cell? ⟨b0, o0 + j * 3 + 1, none⟩ = some (.int .i64 k)) rfl (by kernel_rfl) ⟨c0, c1⟩ ?_
        have hHeld : (fun x : World => x.cell? ⟨b0, o0 + j * 3, none⟩ = some (.int .u64 (v : Nat)) ∧ x.cell? ⟨b0, o0 + j * 3 + 1, none⟩ = some (.int .i64 k)) w2.drew := ⟨c0, c1⟩
        have hl0 := cell_block_lt c0
        have hin2 := Lib.hid (fun (x : World) (hb : Below w2.drew.heap.size w2.drew x) => (⟨(hb.cell (p := ⟨b0, o0 + j * 3, none⟩) hl0).trans c0, (hb.cell (p := ⟨b0, o0 + j * 3 + 1, none⟩) hl0).trans c1⟩ : x.cell? ⟨b0, o0 + j * 3, none⟩ = some (.int .u64 (v : Nat)) ∧ x.cell? ⟨b0, o0 + j * 3 + 1, none⟩ = some (.int .i64 k)))
        clear c0 c1
        first
          | (refine h_run (i := 0) (v := ?_) hHeld rfl (by kernel_rfl) (by kernel_rfl) (by kernel_rfl) ?_ ?_ ?_
             rotate_left
             · rfl
             · (intro x hSx; (try dsimp only at hSx); go_simp <;> with_reducible rfl)
             simp only [Act.put, List.setIfInBounds_toArray, List.set_cons_zero, List.set_cons_succ])
          | (refine h_skip (i := 0) hHeld rfl (by kernel_rfl) (by kernel_rfl) (by kernel_rfl) ?_ ?_
             · rfl
             simp only [Act.put, List.setIfInBounds_toArray, List.set_cons_zero, List.set_cons_succ])
        first
          | (refine h_run (i := 1) (v := ?_) hHeld rfl (by kernel_rfl) (by kernel_rfl) (by kernel_rfl) ?_ ?_ ?_
             rotate_left
             · rfl
             · (intro x hSx; (try dsimp only at hSx); go_simp <;> with_reducible rfl)
             simp only [Act.put, List.setIfInBounds_toArray, List.set_cons_zero, List.set_cons_succ])
          | (refine h_skip (i := 1) hHeld rfl (by kernel_rfl) (by kernel_rfl) (by kernel_rfl) ?_ ?_
             · rfl
             simp only [Act.put, List.setIfInBounds_toArray, List.set_cons_zero, List.set_cons_succ])
        first
          | (refine h_run (i := 2) (v := ?_) hHeld rfl (by kernel_rfl) (by kernel_rfl) (by kernel_rfl) ?_ ?_ ?_
             rotate_left
             · rfl
             · (intro x hSx; (try dsimp only at hSx); go_simp <;> with_reducible rfl)
             simp only [Act.put, List.setIfInBounds_toArray, List.set_cons_zero, List.set_cons_succ])
          | (refine h_skip (i := 2) hHeld rfl (by kernel_rfl) (by kernel_rfl) (by kernel_rfl) ?_ ?_
             · rfl
             simp only [Act.put, List.setIfInBounds_toArray, List.set_cons_zero, List.set_cons_succ])
        first
          | (refine h_run (i := 3) (v := ?_) hHeld rfl (by kernel_rfl) (by kernel_rfl) (by kernel_rfl) ?_ ?_ ?_
             rotate_left
             · rfl
             · (intro x hSx; (try dsimp only at hSx); go_simp <;> with_reducible rfl)
             simp only [Act.put, List.setIfInBounds_toArray, List.set_cons_zero, List.set_cons_succ])
          | (refine h_skip (i := 3) hHeld rfl (by kernel_rfl) (by kernel_rfl) (by kernel_rfl) ?_ ?_
             · rfl
             simp only [Act.put, List.setIfInBounds_toArray, List.set_cons_zero, List.set_cons_succ])
        first
          | (refine h_run (i := 4) (v := ?_) hHeld rfl (by kernel_rfl) (by kernel_rfl) (by kernel_rfl) ?_ ?_ ?_
             rotate_left
             · rfl
             · (intro x hSx; (try dsimp only at hSx); go_simp <;> with_reducible rfl)
             simp only [Act.put, List.setIfInBounds_toArray, List.set_cons_zero, List.set_cons_succ])
          | (refine h_skip (i := 4) hHeld rfl (by kernel_rfl) (by kernel_rfl) (by kernel_rfl) ?_ ?_
             · rfl
             simp only [Act.put, List.setIfInBounds_toArray, List.set_cons_zero, List.set_cons_succ])
        first
          | (refine h_run (i := 5) (v := ?_) hHeld rfl (by kernel_rfl) (by kernel_rfl) (by kernel_rfl) ?_ ?_ ?_
             rotate_left
             · rfl
             · (intro x hSx; (try dsimp only at hSx); go_simp <;> with_reducible rfl)
             simp only [Act.put, List.setIfInBounds_toArray, List.set_cons_zero, List.set_cons_succ])
          | (refine h_skip (i := 5) hHeld rfl (by kernel_rfl) (by kernel_rfl) (by kernel_rfl) ?_ ?_
             · rfl
             simp only [Act.put, List.setIfInBounds_toArray, List.set_cons_zero, List.set_cons_succ])
        first
          | (refine h_run (i := 6) (v := ?_) hHeld rfl (by kernel_rfl) (by kernel_rfl) (by kernel_rfl) ?_ ?_ ?_
             rotate_left
             · rfl
             · (intro x hSx; (try dsimp only at hSx); go_simp <;> with_reducible rfl)
             simp only [Act.put, List.setIfInBounds_toArray, List.set_cons_zero, List.set_cons_succ])
          | (refine h_skip (i := 6) hHeld rfl (by kernel_rfl) (by kernel_rfl) (by kernel_rfl) ?_ ?_
             · rfl
             simp only [Act.put, List.setIfInBounds_toArray, List.set_cons_zero, List.set_cons_succ])
        first
          | (refine h_run (i := 7) (v := ?_) hHeld rfl (by kernel_rfl) (by kernel_rfl) (by kernel_rfl) ?_ ?_ ?_
             rotate_left
             · rfl
             · (intro x hSx; (try dsimp only at hSx); go_simp <;> with_reducible rfl)
             simp only [Act.put, List.setIfInBounds_toArray, List.set_cons_zero, List.set_cons_succ])
          | (refine h_skip (i := 7) hHeld rfl (by kernel_rfl) (by kernel_rfl) (by kernel_rfl) ?_ ?_
             · rfl
             simp only [Act.put, List.setIfInBounds_toArray, List.set_cons_zero, List.set_cons_succ])
        first
          | (refine h_run (i := 8) (v := ?_) hHeld rfl (by kernel_rfl) (by kernel_rfl) (by kernel_rfl) ?_ ?_ ?_
             rotate_left
             · rfl
             · (intro x hSx; (try dsimp only at hSx); go_simp <;> with_reducible rfl)
             simp only [Act.put, List.setIfInBounds_toArray, List.set_cons_zero, List.set_cons_succ])
          | (refine h_skip (i := 8) hHeld rfl (by kernel_rfl) (by kernel_rfl) (by kernel_rfl) ?_ ?_
             · rfl
             simp only [Act.put, List.setIfInBounds_toArray, List.set_cons_zero, List.set_cons_succ])
        first
          | (refine h_run (i := 9) (v := ?_) hHeld rfl (by kernel_rfl) (by kernel_rfl) (by kernel_rfl) ?_ ?_ ?_
             rotate_left
             · rfl
             · (intro x hSx; (try dsimp only at hSx); go_simp <;> with_reducible rfl)
             simp only [Act.put, List.setIfInBounds_toArray, List.set_cons_zero, List.set_cons_succ])
          | (refine h_skip (i := 9) hHeld rfl (by kernel_rfl) (by kernel_rfl) (by kernel_rfl) ?_ ?_
             · rfl
             simp only [Act.put, List.setIfInBounds_toArray, List.set_cons_zero, List.set_cons_succ])
        first
          | (refine h_run (i := 10) (v := ?_) hHeld rfl (by kernel_rfl) (by kernel_rfl) (by kernel_rfl) ?_ ?_ ?_
             rotate_left
             · rfl
             · (intro x hSx; (try dsimp only at hSx); go_simp <;> with_reducible rfl)
             simp only [Act.put, List.setIfInBounds_toArray, List.set_cons_zero, List.set_cons_succ])
          | (refine h_skip (i := 10) hHeld rfl (by kernel_rfl) (by kernel_rfl) (by kernel_rfl) ?_ ?_
             · rfl
             simp only [Act.put, List.setIfInBounds_toArray, List.set_cons_zero, List.set_cons_succ])
        clear hHeld
        refine h_call (i := 11) (fun x => x.cell? ⟨b0, o0 + j * 3, none⟩ = some (.int .u64 (v : Nat)) ∧ x.cell? ⟨b0, o0 + j * 3 + 1, none⟩ = some (.int .i64 k)) (fun x h => h) (kr1.out w2.drew) rfl (by kernel_rfl) rfl ?_ ?_
        · go_simp <;> with_reducible rfl
        rintro e w3 ⟨s3, c3, rfl, hpv3, hb3⟩
        refine ⟨_, rfl, hin2.out w3 hb3, ?_⟩
        simp only [Act.put, List.setIfInBounds_toArray, List.set_cons_zero, List.set_cons_succ]
        have hM3 := hM2d.out.below hb3
        have hB3 := Lib.hid (below_step hB2d.out hB2d.out.size hb3)
        have hsz3 := blk_lt (blk_of hM3.wr.1)
        obtain ⟨v', w4, hrun, ho, hgr, hbk⟩ := run_catB w3 _ (p + 1) n β hM3.row s3 c3 m γ hpv3.rd hpv3.nil (by omega) (by omega) 29
        have hM4 := Lib.hid ((hM3.cat ho hgr hbk).congr rfl (fun j hj => cat_ct n m β γ j hj))
        have hB4 := Lib.hid (hM3.cat_below hgr hB3.out hpw)
        obtain ⟨t4, d4, rfl, _⟩ := hM4.out.open
        obtain ⟨b4, o4, hse, e0, e1, _⟩ := (hph.out.below hB4.out) j hj1
        cases hse
        rw [hvv] at e0
        rw [hkk] at e1
        have hin4 : w4.cell? ⟨b0, o0 + j * 3, none⟩ = some (.int .u64 (v : Nat)) ∧ w4.cell? ⟨b0, o0 + j * 3 + 1, none⟩ = some (.int .i64 k) := ⟨e0, e1⟩
        clear e0 e1
        refine h_value (i := 12) (v := .slice t4 (n + m) d4) (w' := w4) (fun x => x.cell? ⟨b0, o0 + j * 3, none⟩ = some (.int .u64 (v : Nat)) ∧ x.cell? ⟨b0, o0 + j * 3 + 1, none⟩ = some (.int .i64 k)) (fun _ h => h) rfl (by kernel_rfl) rfl ?_ hin4 ?_
        · exact exec_append (.tmp 48) (.tmp 59) _ _ rfl rfl rfl hrun
        have hHeld : (fun x : World => x.cell? ⟨b0, o0 + j * 3, none⟩ = some (.int .u64 (v : Nat)) ∧ x.cell? ⟨b0, o0 + j * 3 + 1, none⟩ = some (.int .i64 k)) w4 := hin4
        clear hin4 ho hgr hbk hrun hpv3 hb3 hM3
        first
          | (refine h_run (i := 13) (v := ?_) hHeld rfl (by kernel_rfl) (by kernel_rfl) (by kernel_rfl) ?_ ?_ ?_
             rotate_left
             · rfl
             · (intro x hSx; (try dsimp only at hSx); go_simp <;> with_reducible rfl)
             simp only [Act.put, List.setIfInBounds_toArray, List.set_cons_zero, List.set_cons_succ])
          | (refine h_skip (i := 13) hHeld rfl (by kernel_rfl) (by kernel_rfl) (by kernel_rfl) ?_ ?_
             · rfl
             simp only [Act.put, List.setIfInBounds_toArray, List.set_cons_zero, List.set_cons_succ])
        refine h_done (by kernel_rfl) ?_
        go_wp2_with fail
        refine (kl.out _ _ _ _ _ _ hM4.out.wr).mono ?_
        rintro e w5 ⟨rfl, rfl⟩
        have d9 : (((n + m : Nat) : Int) != ((n + m : Nat) : Int)) = false := by simp
        go_wp2_with fail
        go_roundw
        case rel => exact ⟨j + 1, n + m, _, _, _, by omega, by omega, by omega, by go_num, hM4, hide (ct_zb β γ n m), hide (ct_bit n m hbt.out (fun j _ => hgb.out j)), hB4⟩
        case measure => simp [intOf]; omega
      · rw [hg] at c2
        have kg1 := Lib.hid (kg.out v hv p s c n β wr hM.out.wr hz.out hbt.out (by omega))
        have hgl := gmN_le v hv
        have hgb := Lib.hid (fun j => gm_bit v j)
        have kr1 := Lib.hid (kr.out v hv)
        generalize gmN v = m at *
        generalize gmF v = γ at *
        go_wp2_with fail
        refine kg1.out.mono ?_
        intro e w2 hpp
        obtain ⟨rfl, s2, c2', hM2, hB2⟩ := hM.out.put hpp
        have hB2' := Lib.hid (hB2 _ _ hB.out (by omega))
        have hM2h := Lib.hid hM2
        clear hpp hB2 hM2 c0 c1 c2
        obtain ⟨b1, o1, hse, c0, c1, c2⟩ := (hph.out.below hB2'.out) j hj1
        cases hse
        rw [hvv] at c0
        clear c1 c2
        go_upto_region 10 with (fail)
        go_wp2_with fail
        refine (kr1.out _).mono ?_
        rintro e w3 ⟨s3, c3, rfl, hpv3, hb3⟩
        have hM3 := Lib.hid (hM2h.out.below hb3)
        have hB3 := Lib.hid (below_step hB2'.out hB2'.out.size hb3)
        have hpv3h := Lib.hid hpv3
        have hsz3 := blk_lt (blk_of hM3.out.wr.1)
        clear hpv3 hb3
        go_wp2_with (at_builtin; refine wpList_catB rfl (.tmp 29) (.tmp 35) rfl _ (p + 1) n β rfl hM3.out.row s3 c3 m γ rfl hpv3h.out.rd hpv3h.out.nil (by omega) (by omega) ?_; intro v' w4 ho hgr hbk; have hM4 := Lib.hid ((hM3.out.cat ho hgr hbk).congr rfl (fun j hj => cat_ct n m β γ j hj)); have hB4 := Lib.hid (hM3.out.cat_below hgr hB3.out hpw); clear ho hgr hbk; obtain ⟨t4, d4, rfl, _⟩ := hM4.out.open)
        refine (kl.out _ _ _ _ _ _ hM4.out.wr).mono ?_
        rintro e w5 ⟨rfl, rfl⟩
        have d9 : (((n + m : Nat) : Int) != ((n + m : Nat) : Int)) = false := by simp
        go_wp2_with fail
        go_roundw
        case rel => exact ⟨j + 1, n + m, _, _, _, by omega, by omega, by omega, by go_num, hM4, hide (ct_zb β γ n m), hide (ct_bit n m hbt.out (fun j _ => hgb.out j)), hB4⟩
        case measure => simp [intOf]; omega
    · have d0 : decide ((j : Int) < (len0 : Int)) = false ∨ (decide ((j : Int) < (len0 : Int)) = true ∧ decide ((j : Int) < 60) = false) := by
        by_cases h : j < len0
        · exact .inr ⟨decide_eq_true (by omega), decide_eq_false (by omega)⟩
        · exact .inl (decide_eq_false (by omega))
      have kw := Lib.hid (d_bytes p s c n β wr hM.out.wr (by omega))
      have kt := Lib.hid (fun W (h : By W t n β) => dr_bytes t n d β W h (fun i _ => hbt.out i) (by omega))
      have hpx := px_all β n hz.out
      rw [hpx] at kt
      have hsm := Lib.hid (fun s1 t1 c1 d1 f W h1 h2 => r_same8 s1 t1 c1 d1 ((n + 7) / 8) f W h1 h2 (by omega))
      clear hpx
      rcases d0 with d0 | ⟨d0, d1⟩
      · have kw1 := kw
        go_wp2_with fail
        all_goals
          have kw2 := kw1
          refine kw2.out.mono ?_
          rintro e w2 ⟨g2, c2, rfl, q1, q2, q3, q4, q5⟩
          have hB2 := Lib.hid (below_step hB.out hB.out.size q5)
          have hby := (hM.out.below q5).open
          obtain ⟨t', d', he, hpv⟩ := hby
          cases he
          have kt1 := Lib.hid (kt.out w2 hpv.rd)
          have q4h := Lib.hid q4
          clear hpv q4 q5 q1
          go_wp2_with fail
          refine kt1.out.mono ?_
          rintro e w3 ⟨g3, c3, rfl, r1, r2, r3, r4, r5⟩
          have hB3 := Lib.hid (below_step hB2.out hB2.out.size r5)
          have hs3 := Lib.hid (hsm.out _ _ c2 c3 _ w3 ((q4h.out.by).below r5) r4.by)
          clear r4 r5 r1
          go_wp2_with fail
          refine hs3.out.mono ?_
          rintro e w4 ⟨rfl, x, rfl⟩
          have hB4 := below_drewN hB3.out x
          have hB4h := Lib.hid hB4
          clear hB4
          go_wp2_with fail
          go_ret
          exact ⟨rfl, hB4h.out⟩
      · have kw1 := kw
        go_wp2_with fail
        all_goals
          have kw2 := kw1
          refine kw2.out.mono ?_
          rintro e w2 ⟨g2, c2, rfl, q1, q2, q3, q4, q5⟩
          have hB2 := Lib.hid (below_step hB.out hB.out.size q5)
          have hby := (hM.out.below q5).open
          obtain ⟨t', d', he, hpv⟩ := hby
          cases he
          have kt1 := Lib.hid (kt.out w2 hpv.rd)
          have q4h := Lib.hid q4
          clear hpv q4 q5 q1
          go_wp2_with fail
          refine kt1.out.mono ?_
          rintro e w3 ⟨g3, c3, rfl, r1, r2, r3, r4, r5⟩
          have hB3 := Lib.hid (below_step hB2.out hB2.out.size r5)
          have hs3 := Lib.hid (hsm.out _ _ c2 c3 _ w3 ((q4h.out.by).below r5) r4.by)
          clear r4 r5 r1
          go_wp2_with fail
          refine hs3.out.mono ?_
          rintro e w4 ⟨rfl, x, rfl⟩
          have hB4 := below_drewN hB3.out x
          have hB4h := Lib.hid hB4
          clear hB4
          go_wp2_with fail
          go_ret
          exact ⟨rfl, hB4h.out⟩
end Go.Proofs.Ytdpmhfpoendooaa

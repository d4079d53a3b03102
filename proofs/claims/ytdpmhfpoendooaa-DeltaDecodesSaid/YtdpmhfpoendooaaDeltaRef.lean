/- The contracts of the document's Bits, Gamma, Bytes of layer 33. Conditions: the slice reads as the bits named. -/
import Derived.Test.YtdpmhfpoendooaaDelta3
import Derived.Test.YtdpmhfpoendooaaCat8b
namespace Go.Proofs.Ytdpmhfpoendooaa
open Go.RowKit
theorem clamp_mm2 (x n : Int) (h : x = if (if n < 0 then 0 else n) ≤ 64 then (if n < 0 then 0 else n) else 64) : x = clampZ n 0 64 := by
  subst h; unfold clampZ; split <;> split <;> omega
theorem bs_int (v s : Nat) : (v : Int) / 2 ^ s % 2 = ((bitF v s : Nat) : Int) := by rw [cast_pow]; unfold bitF; omega
theorem bs_tint (v s : Nat) : ((v : Int) / 2 ^ s).tmod 2 = ((bitF v s : Nat) : Int) := by
  rw [cast_pow]; unfold bitF
  generalize v / 2 ^ s = X
  rw [Int.tmod_eq_emod_of_nonneg (by omega)]; omega
attribute [local irreducible] OwnB byF apF bitF putF ctF bsF gmF gmN nbF chF chN enN enB dlF lastF
set_option maxHeartbeats 2000000 in
theorem dr_bits (v : Nat) (k : Int) (w : World) (N : Nat) (hN : clampZ k 0 64 = (N : Int)) :
    Calls Try.prog 13 #[.int .u64 (v : Nat), .int .i64 k] w (PolyPost w N (bsF v N)) := by
  have hbd := clampZ_bd k 0 64 (by omega)
  have hcl := Lib.hid (fun x h => (clamp_mm2 x k h).trans hN)
  rw [hN] at hbd
  have hN2 : N ≤ 64 := by omega
  have hbs : Hid (∀ j, j < N → bitF v (N - 1 - j) = bsF v N j) := hide (fun j _ => by unfold bsF; rfl)
  have hb1 := Lib.hid (fun s => bs_tint v s)
  have hb2 := Lib.hid (fun s => bit_le v s)
  clear hN hbd
  go_enter Try.func13, Try.ntmps13
  go_upto_region 2 with (fail)
  go_cut [6] (fun iv wx => iv = .int .i64 ((N : Int) - 1) ∧ w = wx)
  case first =>
    go_wp2_with fail
    all_goals
      go_meet
      exact ⟨congrArg (Value.int .i64) (by have h := hcl.out _ rfl; split at h <;> (try split at h) <;> omega), rfl⟩
  case rest =>
  obtain ⟨rfl, hwc⟩ := hcut
  subst hwc
  clear hcl
  go_wp2_with fail
  go_loopw [5, 6] (fun o iv wr => ∃ j : Nat, j ≤ N ∧ iv = .int .i64 ((N : Int) - 1 - (j : Int)) ∧ OwnB wr w.heap.size o j (bsF v N) ∧ Below w.heap.size w wr) (fun _ iv _ => (intOf iv + 1).toNat)
  case atStart => exact ⟨0, Nat.zero_le _, by go_num, OwnB.nil _ _ _, Below.refl _ _⟩
  case round =>
    obtain ⟨j, hj, rfl, hown, hB⟩ := hrel
    by_cases hjN : j < N
    · have i0 : 0 ≤ (N : Int) - 1 - (j : Int) := by omega
      have d0 : decide ((N : Int) - 1 - (j : Int) ≥ 0) = true := decide_eq_true i0
      have hbit := hb1.out (N - 1 - j)
      have hble := hb2.out (N - 1 - j)
      rw [hbs.out j hjN] at hbit hble
      have h256 : ((bsF v N j : Nat) : Int) % 256 = ((bsF v N j : Nat) : Int) := by omega
      have hownh := Lib.hid hown
      have hBh := Lib.hid hB
      clear hown hB
      go_wp2_with (at_builtin; refine wpList_snocB rfl (.tmp 15) (.tmp 21) rfl w wr _ w.heap.size j (bsF v N) rfl rfl rfl hownh.out (by omega) hBh.out (Nat.le_refl _) ?_; intro v' w' ho hb')
      go_roundw
      case rel => exact ⟨j + 1, by omega, by go_num, ho, hb'⟩
      case measure => first | (simp [intOf]; done) | (simp [intOf]; omega)
    · obtain rfl : j = N := by omega
      have d0 : decide ((j : Int) - 1 - (j : Int) ≥ 0) = false := decide_eq_false (by omega)
      obtain ⟨so, co, rfl, hpv⟩ := hown.pv
      have hpvh := Lib.hid hpv
      clear hpv hown
      go_wp2_with fail
      go_ret
      exact ⟨so, co, rfl, hpvh.out, hB⟩
theorem below_new (w : World) (o : Obj) : Below w.heap.size w (w.drew.alloc o) := ⟨rfl, rfl, rfl, by show w.heap.size ≤ (w.heap.push o).size; rw [Array.size_push]; exact Nat.le_succ _, fun i hi => by show (w.heap.push o)[i]? = _; rw [Array.getElem?_push]; rw [if_neg (by omega)]⟩
theorem below_new1 (w : World) (o : Obj) : Below w.heap.size w (w.alloc o) := ⟨rfl, rfl, rfl, by show w.heap.size ≤ (w.heap.push o).size; rw [Array.size_push]; exact Nat.le_succ _, fun i hi => by show (w.heap.push o)[i]? = _; rw [Array.getElem?_push]; rw [if_neg (by omega)]⟩
theorem size_new (w : World) (o : Obj) : w.heap.size ≤ (w.drew.alloc o).heap.size := (below_new w o).size
def OwnPost (W : World) (m : Nat) (f : Nat → Nat) (e : Ending) (W' : World) : Prop := ∃ v, e = .returned v ∧ OwnB W' W.heap.size v m f ∧ Below W.heap.size W W'
theorem OwnPost.poly {W : World} {m : Nat} {f : Nat → Nat} {e : Ending} {W' : World} (h : OwnPost W m f e W') : PolyPost W m f e W' := by
  obtain ⟨v, he, ho, hb⟩ := h
  obtain ⟨s, c, hv, hp⟩ := ho.pv
  exact ⟨s, c, he.trans (by rw [hv]), hp, hb⟩
set_option maxHeartbeats 2000000 in
theorem dr_gamma_own (v : Nat) (w : World) (hv : v < 18446744073709551616) :
    Calls Try.prog 11 #[.int .u64 (v : Nat)] w (OwnPost w (gmN v) (gmF v)) := by
  have hnb := nb_max v 64 (by omega)
  have hpow : Hid (∀ j, j < nbF v → 0 < v / 2 ^ j) := hide (fun j hj => by
    have h0 : v ≠ 0 := fun e => by subst e; unfold nbF at hj; simp at hj
    have h1 := nb_le v h0
    have h2 := Nat.pow_le_pow_right (show 0 < 2 by decide) (show j ≤ nbF v - 1 by omega)
    exact Nat.div_pos (by omega) (Nat.pow_pos (by decide)))
  have hend : Hid (v / 2 ^ nbF v = 0) := hide (Nat.div_eq_of_lt (nb_lt v))
  have hcast := Lib.hid (fun j => cast_pow v j)
  have kb := Lib.hid (fun W => dr_bits v ((nbF v : Nat) : Int) W (nbF v) (clamp_nat _ hnb))
  have hgm : Hid (∀ j, j < gmN v → catF (nbF v - 1) (fun _ => 0) (bsF v (nbF v)) j = gmF v j) := hide (fun j hj => by
    by_cases e : j < nbF v - 1
    · unfold catF gmF; simp [e]
    · unfold catF gmF bsF; simp [e])
  have hgn : Hid (nbF v - 1 + nbF v = gmN v) := hide (by unfold gmN; omega)
  have hmk0 : ∀ x : World, (Instr.makeSlice 29 (.int .i64 ((nbF v - 1 : Nat) : Int)) (.int .i64 ((nbF v - 1 : Nat) : Int))).run Try.prog x = .ok (.slice (some ⟨x.heap.size, 0, none⟩) (nbF v - 1) (nbF v - 1)) (x.alloc (.cells (madeCells #[.int .u8 0] (nbF v - 1)) 5)) := fun x => make_row (P := Try.prog) Try.underlying29 info8 (nbF v - 1) (by omega) (by decide) x
  have hmkh := Lib.hid hmk0
  clear hmk0
  generalize nbF v = N at *
  go_enter Try.func11, Try.ntmps11
  go_wp2_with fail
  go_loop [3] (fun n => ∃ k : Nat, k ≤ N ∧ n = .int .i64 k) (fun n => N - (intOf n).toNat)
  case atStart => exact ⟨0, Nat.zero_le _, rfl⟩
  case round =>
    obtain ⟨k, hk, rfl⟩ := hrel
    have hc := hcast.out k
    by_cases hlt : k < N
    · have h1 := hpow.out k hlt
      have i1 : (k : Int) < 64 := by omega
      generalize v / 2 ^ k = X at *
      have d1 : decide (0 < (X : Int)) = true := decide_eq_true (by omega)
      have d2 : decide (0 < X) = true := decide_eq_true h1
      go_wp2_with fail
      go_round
      case rel => exact ⟨k + 1, by omega, by go_num⟩
      case measure => simp [intOf]; omega
    · obtain rfl : k = N := by omega
      have h1 := hend.out
      generalize v / 2 ^ k = X at *
      subst h1
      rcases Nat.eq_zero_or_pos k with h0 | h0
      · subst h0
        have hmk : ∀ x : World, (Instr.makeSlice 29 (.int .i64 0) (.int .i64 0)).run Try.prog x = .ok (.slice (some ⟨x.heap.size, 0, none⟩) 0 0) (x.alloc (.cells (madeCells #[.int .u8 0] 0) 5)) := hmkh.out
        have e1 : IntKind.i64.wrap (-1) = -1 := by decide
        have e2 : ((-1 : Int) < 0) = True := by decide
        have e3 : decide ((-1 : Int) < 0) = true := by decide
        go_upto_region 4 with (fail)
        have hBd := Lib.hid (below_drewN (Below.refl w.heap.size w) 1)
        refine h_begin 9 (fun _ => True) rfl (by kernel_rfl) trivial ?_
        have hHeld : (fun _ : World => True) w.drew := trivial
        first
          | (refine h_run (i := 0) (v := ?_) hHeld rfl (by kernel_rfl) (by kernel_rfl) (by kernel_rfl) ?_ ?_ ?_
             rotate_left
             · rfl
             · (intro x hSx; (try dsimp only at hSx); go_simp <;> with_reducible rfl)
             simp only [Act.put, List.setIfInBounds_toArray, List.set_cons_zero, List.set_cons_succ])
          | (refine h_skip (i := 0) hHeld rfl (by kernel_rfl) (by kernel_rfl) (by kernel_rfl) ?_ ?_
             · rfl
             simp only [Act.put, List.setIfInBounds_toArray, List.set_cons_zero, List.set_cons_succ])
        first
          | (refine h_run (i := 1) (v := ?_) hHeld rfl (by kernel_rfl) (by kernel_rfl) (by kernel_rfl) ?_ ?_ ?_
             rotate_left
             · rfl
             · (intro x hSx; (try dsimp only at hSx); go_simp <;> with_reducible rfl)
             simp only [Act.put, List.setIfInBounds_toArray, List.set_cons_zero, List.set_cons_succ])
          | (refine h_skip (i := 1) hHeld rfl (by kernel_rfl) (by kernel_rfl) (by kernel_rfl) ?_ ?_
             · rfl
             simp only [Act.put, List.setIfInBounds_toArray, List.set_cons_zero, List.set_cons_succ])
        first
          | (refine h_run (i := 2) (v := ?_) hHeld rfl (by kernel_rfl) (by kernel_rfl) (by kernel_rfl) ?_ ?_ ?_
             rotate_left
             · rfl
             · (intro x hSx; (try dsimp only at hSx); go_simp <;> with_reducible rfl)
             simp only [Act.put, List.setIfInBounds_toArray, List.set_cons_zero, List.set_cons_succ])
          | (refine h_skip (i := 2) hHeld rfl (by kernel_rfl) (by kernel_rfl) (by kernel_rfl) ?_ ?_
             · rfl
             simp only [Act.put, List.setIfInBounds_toArray, List.set_cons_zero, List.set_cons_succ])
        first
          | (refine h_run (i := 4) (v := ?_) hHeld rfl (by kernel_rfl) (by kernel_rfl) (by kernel_rfl) ?_ ?_ ?_
             rotate_left
             · rfl
             · (intro x hSx; (try dsimp only at hSx); go_simp <;> with_reducible rfl)
             simp only [Act.put, List.setIfInBounds_toArray, List.set_cons_zero, List.set_cons_succ])
          | (refine h_skip (i := 4) hHeld rfl (by kernel_rfl) (by kernel_rfl) (by kernel_rfl) ?_ ?_
             · rfl
             simp only [Act.put, List.setIfInBounds_toArray, List.set_cons_zero, List.set_cons_succ])
        first
          | (refine h_run (i := 5) (v := ?_) hHeld rfl (by kernel_rfl) (by kernel_rfl) (by kernel_rfl) ?_ ?_ ?_
             rotate_left
             · rfl
             · (intro x hSx; (try dsimp only at hSx); go_simp <;> with_reducible rfl)
             simp only [Act.put, List.setIfInBounds_toArray, List.set_cons_zero, List.set_cons_succ])
          | (refine h_skip (i := 5) hHeld rfl (by kernel_rfl) (by kernel_rfl) (by kernel_rfl) ?_ ?_
             · rfl
             simp only [Act.put, List.setIfInBounds_toArray, List.set_cons_zero, List.set_cons_succ])
        clear hHeld
        refine h_pair (i := 3) (j := 6) (v := .slice (some ⟨w.drew.heap.size, 0, none⟩) 0 0) (w1 := w.drew.alloc (.cells (madeCells #[.int .u8 0] 0) 5)) (kb.out w.drew) rfl rfl (by kernel_rfl) rfl rfl ?_ ?_ trivial ?_ ?_
        · go_simp <;> exact hmk w.drew
        · go_simp <;> with_reducible rfl
        · refine h_call (i := 6) (fun _ => True) (fun _ h => h) (kb.out _) rfl (by kernel_rfl) rfl ?_ ?_
          · go_simp <;> with_reducible rfl
          rintro e w' ⟨s2, c2, rfl, hpv, hb2⟩
          refine ⟨_, rfl, trivial, ?_⟩
          have hb3 : Below w.heap.size w w' := (below_new w _).trans (hb2.mono (size_new w _))
          have hsz1 := hb3.size
          have hown0 := (own_made w.drew w.heap.size 0 (Nat.le_refl _) (by omega)).below hb2
          obtain ⟨v', w'', hrun, hown, hg, _⟩ := run_catB w' _ w.heap.size 0 (fun _ => 0) hown0 s2 c2 0 (bsF v 0) hpv.rd hpv.nil (by omega) hsz1 29
          have hbf := Lib.hid (hown0.belowB hb3 (Nat.le_refl _) hg)
          obtain ⟨so, co, rfl, hpo⟩ := hown.pv
          have hfin : Hid (OwnPost w (gmN v) (gmF v) (.returned (.slice so (0 + 0) co)) w'') := hide (by
            have hgn' := hgn.out
            have hgm' := hgm.out
            rw [Nat.zero_sub] at hgn' hgm'
            rw [← hgn'] at hgm' ⊢
            exact ⟨_, rfl, hown.congr hgm', hbf.out⟩)
          refine h_value (i := 7) (v := .slice so (0 + 0) co) (w' := w'') (fun _ => True) (fun _ h => h) rfl (by kernel_rfl) rfl ?_ trivial ?_
          · exact exec_append (.tmp 17) (.tmp 20) _ _ rfl rfl rfl hrun
          have hHeld : (fun _ : World => True) w'' := trivial
          clear hpo hbf hown hown0 hpv hb2 hb3 hg hrun
          first
            | (refine h_run (i := 8) (v := ?_) hHeld rfl (by kernel_rfl) (by kernel_rfl) (by kernel_rfl) ?_ ?_ ?_
               rotate_left
               · rfl
               · (intro x hSx; (try dsimp only at hSx); go_simp <;> with_reducible rfl)
               simp only [Act.put, List.setIfInBounds_toArray, List.set_cons_zero, List.set_cons_succ])
            | (refine h_skip (i := 8) hHeld rfl (by kernel_rfl) (by kernel_rfl) (by kernel_rfl) ?_ ?_
               · rfl
               simp only [Act.put, List.setIfInBounds_toArray, List.set_cons_zero, List.set_cons_succ])
          refine h_done (by kernel_rfl) ?_
          go_wp2_with fail
          go_ret
          exact hfin.out
        · rintro e w' ⟨s2, c2, rfl, hpv, hb2⟩
          refine ⟨_, rfl, trivial, ?_⟩
          refine h_value (i := 3) (v := .slice (some ⟨w'.heap.size, 0, none⟩) 0 0) (w' := w'.alloc (.cells (madeCells #[.int .u8 0] 0) 5)) (fun _ => True) (fun _ h => h) rfl (by kernel_rfl) rfl ?_ trivial ?_
          · go_simp <;> exact hmk w'
          have hb3 : Below w.heap.size w w' := (below_drewN (Below.refl w.heap.size w) 1).trans hb2
          have hb4 : Below w.heap.size w (w'.alloc (.cells (madeCells #[.int .u8 0] 0) 5)) := hb3.trans ((below_new1 w' _).mono hb3.size)
          have hsz1 := hb4.size
          have hown0 := own_made w' w.heap.size 0 hb3.size (by omega)
          have hpv2 := hpv.below (below_new1 w' (.cells (madeCells #[.int .u8 0] 0) 5))
          obtain ⟨v', w'', hrun, hown, hg, _⟩ := run_catB _ _ w.heap.size 0 (fun _ => 0) hown0 s2 c2 0 (bsF v 0) hpv2.rd hpv2.nil (by omega) hsz1 29
          have hbf := Lib.hid (hown0.belowB hb4 (Nat.le_refl _) hg)
          obtain ⟨so, co, rfl, hpo⟩ := hown.pv
          have hfin : Hid (OwnPost w (gmN v) (gmF v) (.returned (.slice so (0 + 0) co)) w'') := hide (by
            have hgn' := hgn.out
            have hgm' := hgm.out
            rw [Nat.zero_sub] at hgn' hgm'
            rw [← hgn'] at hgm' ⊢
            exact ⟨_, rfl, hown.congr hgm', hbf.out⟩)
          refine h_value (i := 7) (v := .slice so (0 + 0) co) (w' := w'') (fun _ => True) (fun _ h => h) rfl (by kernel_rfl) rfl ?_ trivial ?_
          · exact exec_append (.tmp 17) (.tmp 20) _ _ rfl rfl rfl hrun
          have hHeld : (fun _ : World => True) w'' := trivial
          clear hpo hbf hown hown0 hpv hpv2 hb2 hb3 hb4 hg hrun
          first
            | (refine h_run (i := 8) (v := ?_) hHeld rfl (by kernel_rfl) (by kernel_rfl) (by kernel_rfl) ?_ ?_ ?_
               rotate_left
               · rfl
               · (intro x hSx; (try dsimp only at hSx); go_simp <;> with_reducible rfl)
               simp only [Act.put, List.setIfInBounds_toArray, List.set_cons_zero, List.set_cons_succ])
            | (refine h_skip (i := 8) hHeld rfl (by kernel_rfl) (by kernel_rfl) (by kernel_rfl) ?_ ?_
               · rfl
               simp only [Act.put, List.setIfInBounds_toArray, List.set_cons_zero, List.set_cons_succ])
          refine h_done (by kernel_rfl) ?_
          go_wp2_with fail
          go_ret
          exact hfin.out
      · obtain ⟨q, rfl⟩ : ∃ q, k = q + 1 := ⟨k - 1, by omega⟩
        have e1 : IntKind.i64.wrap ((q : Int) + 1 - 1) = (q : Int) := by rw [Int.add_sub_cancel]; exact IntWalk.i64_in _ (by omega)
        have e2 : IntKind.i64.wrap (q : Int) = (q : Int) := IntWalk.i64_in _ (by omega)
        have e3 : decide ((q : Int) < 0) = false := decide_eq_false (by omega)
        have e4 : decide (0 < (q : Int)) = true ∨ (q : Int) = 0 := by
          by_cases h : 0 < (q : Int)
          · exact .inl (decide_eq_true h)
          · exact .inr (by omega)
        have e5 : ¬ (q : Int) < 0 := by omega
        have hmk := hmkh.out
        rw [Nat.add_sub_cancel] at hmk
        by_cases h64 : q + 1 < 64
        · have i1 : (q : Int) + 1 < 64 := by omega
          go_upto_region 4 with (fail)
          have hBd := Lib.hid (below_drewN (Below.refl w.heap.size w) 1)
          refine h_begin 9 (fun _ => True) rfl (by kernel_rfl) trivial ?_
          have hHeld : (fun _ : World => True) w.drew := trivial
          first
            | (refine h_run (i := 0) (v := ?_) hHeld rfl (by kernel_rfl) (by kernel_rfl) (by kernel_rfl) ?_ ?_ ?_
               rotate_left
               · rfl
               · (intro x hSx; (try dsimp only at hSx); go_simp <;> with_reducible rfl)
               simp only [Act.put, List.setIfInBounds_toArray, List.set_cons_zero, List.set_cons_succ])
            | (refine h_skip (i := 0) hHeld rfl (by kernel_rfl) (by kernel_rfl) (by kernel_rfl) ?_ ?_
               · rfl
               simp only [Act.put, List.setIfInBounds_toArray, List.set_cons_zero, List.set_cons_succ])
          first
            | (refine h_run (i := 1) (v := ?_) hHeld rfl (by kernel_rfl) (by kernel_rfl) (by kernel_rfl) ?_ ?_ ?_
               rotate_left
               · rfl
               · (intro x hSx; (try dsimp only at hSx); go_simp <;> with_reducible rfl)
               simp only [Act.put, List.setIfInBounds_toArray, List.set_cons_zero, List.set_cons_succ])
            | (refine h_skip (i := 1) hHeld rfl (by kernel_rfl) (by kernel_rfl) (by kernel_rfl) ?_ ?_
               · rfl
               simp only [Act.put, List.setIfInBounds_toArray, List.set_cons_zero, List.set_cons_succ])
          first
            | (refine h_run (i := 2) (v := ?_) hHeld rfl (by kernel_rfl) (by kernel_rfl) (by kernel_rfl) ?_ ?_ ?_
               rotate_left
               · rfl
               · (intro x hSx; (try dsimp only at hSx); go_simp <;> with_reducible rfl)
               simp only [Act.put, List.setIfInBounds_toArray, List.set_cons_zero, List.set_cons_succ])
            | (refine h_skip (i := 2) hHeld rfl (by kernel_rfl) (by kernel_rfl) (by kernel_rfl) ?_ ?_
               · rfl
               simp only [Act.put, List.setIfInBounds_toArray, List.set_cons_zero, List.set_cons_succ])
          first
            | (refine h_run (i := 4) (v := ?_) hHeld rfl (by kernel_rfl) (by kernel_rfl) (by kernel_rfl) ?_ ?_ ?_
               rotate_left
               · rfl
               · (intro x hSx; (try dsimp only at hSx); go_simp <;> with_reducible rfl)
               simp only [Act.put, List.setIfInBounds_toArray, List.set_cons_zero, List.set_cons_succ])
            | (refine h_skip (i := 4) hHeld rfl (by kernel_rfl) (by kernel_rfl) (by kernel_rfl) ?_ ?_
               · rfl
               simp only [Act.put, List.setIfInBounds_toArray, List.set_cons_zero, List.set_cons_succ])
          first
            | (refine h_run (i := 5) (v := ?_) hHeld rfl (by kernel_rfl) (by kernel_rfl) (by kernel_rfl) ?_ ?_ ?_
               rotate_left
               · rfl
               · (intro x hSx; (try dsimp only at hSx); go_simp <;> with_reducible rfl)
               simp only [Act.put, List.setIfInBounds_toArray, List.set_cons_zero, List.set_cons_succ])
            | (refine h_skip (i := 5) hHeld rfl (by kernel_rfl) (by kernel_rfl) (by kernel_rfl) ?_ ?_
               · rfl
               simp only [Act.put, List.setIfInBounds_toArray, List.set_cons_zero, List.set_cons_succ])
          clear hHeld
          refine h_pair (i := 3) (j := 6) (v := .slice (some ⟨w.drew.heap.size, 0, none⟩) q q) (w1 := w.drew.alloc (.cells (madeCells #[.int .u8 0] q) 5)) (kb.out w.drew) rfl rfl (by kernel_rfl) rfl rfl ?_ ?_ trivial ?_ ?_
          · go_simp <;> exact hmk w.drew
          · go_simp <;> with_reducible rfl
          · refine h_call (i := 6) (fun _ => True) (fun _ h => h) (kb.out _) rfl (by kernel_rfl) rfl ?_ ?_
            · go_simp <;> with_reducible rfl
            rintro e w' ⟨s2, c2, rfl, hpv, hb2⟩
            refine ⟨_, rfl, trivial, ?_⟩
            have hb3 : Below w.heap.size w w' := (below_new w _).trans (hb2.mono (size_new w _))
            have hsz1 := hb3.size
            have hown0 := (own_made w.drew w.heap.size q (Nat.le_refl _) (by omega)).below hb2
            obtain ⟨v', w'', hrun, hown, hg, _⟩ := run_catB w' _ w.heap.size q (fun _ => 0) hown0 s2 c2 (q + 1) (bsF v (q + 1)) hpv.rd hpv.nil (by omega) hsz1 29
            have hbf := Lib.hid (hown0.belowB hb3 (Nat.le_refl _) hg)
            obtain ⟨so, co, rfl, hpo⟩ := hown.pv
            have hfin : Hid (OwnPost w (gmN v) (gmF v) (.returned (.slice so (q + (q + 1)) co)) w'') := hide (by
              have hgn' := hgn.out
              have hgm' := hgm.out
              rw [Nat.add_sub_cancel] at hgn' hgm'
              rw [← hgn'] at hgm' ⊢
              exact ⟨_, rfl, hown.congr hgm', hbf.out⟩)
            refine h_value (i := 7) (v := .slice so (q + (q + 1)) co) (w' := w'') (fun _ => True) (fun _ h => h) rfl (by kernel_rfl) rfl ?_ trivial ?_
            · exact exec_append (.tmp 17) (.tmp 20) _ _ rfl rfl rfl hrun
            have hHeld : (fun _ : World => True) w'' := trivial
            clear hpo hbf hown hown0 hpv hb2 hb3 hg hrun
            first
              | (refine h_run (i := 8) (v := ?_) hHeld rfl (by kernel_rfl) (by kernel_rfl) (by kernel_rfl) ?_ ?_ ?_
                 rotate_left
                 · rfl
                 · (intro x hSx; (try dsimp only at hSx); go_simp <;> with_reducible rfl)
                 simp only [Act.put, List.setIfInBounds_toArray, List.set_cons_zero, List.set_cons_succ])
              | (refine h_skip (i := 8) hHeld rfl (by kernel_rfl) (by kernel_rfl) (by kernel_rfl) ?_ ?_
                 · rfl
                 simp only [Act.put, List.setIfInBounds_toArray, List.set_cons_zero, List.set_cons_succ])
            refine h_done (by kernel_rfl) ?_
            go_wp2_with fail
            go_ret
            exact hfin.out
          · rintro e w' ⟨s2, c2, rfl, hpv, hb2⟩
            refine ⟨_, rfl, trivial, ?_⟩
            refine h_value (i := 3) (v := .slice (some ⟨w'.heap.size, 0, none⟩) q q) (w' := w'.alloc (.cells (madeCells #[.int .u8 0] q) 5)) (fun _ => True) (fun _ h => h) rfl (by kernel_rfl) rfl ?_ trivial ?_
            · go_simp <;> exact hmk w'
            have hb3 : Below w.heap.size w w' := (below_drewN (Below.refl w.heap.size w) 1).trans hb2
            have hb4 : Below w.heap.size w (w'.alloc (.cells (madeCells #[.int .u8 0] q) 5)) := hb3.trans ((below_new1 w' _).mono hb3.size)
            have hsz1 := hb4.size
            have hown0 := own_made w' w.heap.size q hb3.size (by omega)
            have hpv2 := hpv.below (below_new1 w' (.cells (madeCells #[.int .u8 0] q) 5))
            obtain ⟨v', w'', hrun, hown, hg, _⟩ := run_catB _ _ w.heap.size q (fun _ => 0) hown0 s2 c2 (q + 1) (bsF v (q + 1)) hpv2.rd hpv2.nil (by omega) hsz1 29
            have hbf := Lib.hid (hown0.belowB hb4 (Nat.le_refl _) hg)
            obtain ⟨so, co, rfl, hpo⟩ := hown.pv
            have hfin : Hid (OwnPost w (gmN v) (gmF v) (.returned (.slice so (q + (q + 1)) co)) w'') := hide (by
              have hgn' := hgn.out
              have hgm' := hgm.out
              rw [Nat.add_sub_cancel] at hgn' hgm'
              rw [← hgn'] at hgm' ⊢
              exact ⟨_, rfl, hown.congr hgm', hbf.out⟩)
            refine h_value (i := 7) (v := .slice so (q + (q + 1)) co) (w' := w'') (fun _ => True) (fun _ h => h) rfl (by kernel_rfl) rfl ?_ trivial ?_
            · exact exec_append (.tmp 17) (.tmp 20) _ _ rfl rfl rfl hrun
            have hHeld : (fun _ : World => True) w'' := trivial
            clear hpo hbf hown hown0 hpv hpv2 hb2 hb3 hb4 hg hrun
            first
              | (refine h_run (i := 8) (v := ?_) hHeld rfl (by kernel_rfl) (by kernel_rfl) (by kernel_rfl) ?_ ?_ ?_
                 rotate_left
                 · rfl
                 · (intro x hSx; (try dsimp only at hSx); go_simp <;> with_reducible rfl)
                 simp only [Act.put, List.setIfInBounds_toArray, List.set_cons_zero, List.set_cons_succ])
              | (refine h_skip (i := 8) hHeld rfl (by kernel_rfl) (by kernel_rfl) (by kernel_rfl) ?_ ?_
                 · rfl
                 simp only [Act.put, List.setIfInBounds_toArray, List.set_cons_zero, List.set_cons_succ])
            refine h_done (by kernel_rfl) ?_
            go_wp2_with fail
            go_ret
            exact hfin.out
        · have i1 : ¬ ((q : Int) + 1 < 64) := by omega
          go_upto_region 4 with (fail)
          have hBd := Lib.hid (below_drewN (Below.refl w.heap.size w) 1)
          refine h_begin 9 (fun _ => True) rfl (by kernel_rfl) trivial ?_
          have hHeld : (fun _ : World => True) w.drew := trivial
          first
            | (refine h_run (i := 0) (v := ?_) hHeld rfl (by kernel_rfl) (by kernel_rfl) (by kernel_rfl) ?_ ?_ ?_
               rotate_left
               · rfl
               · (intro x hSx; (try dsimp only at hSx); go_simp <;> with_reducible rfl)
               simp only [Act.put, List.setIfInBounds_toArray, List.set_cons_zero, List.set_cons_succ])
            | (refine h_skip (i := 0) hHeld rfl (by kernel_rfl) (by kernel_rfl) (by kernel_rfl) ?_ ?_
               · rfl
               simp only [Act.put, List.setIfInBounds_toArray, List.set_cons_zero, List.set_cons_succ])
          first
            | (refine h_run (i := 1) (v := ?_) hHeld rfl (by kernel_rfl) (by kernel_rfl) (by kernel_rfl) ?_ ?_ ?_
               rotate_left
               · rfl
               · (intro x hSx; (try dsimp only at hSx); go_simp <;> with_reducible rfl)
               simp only [Act.put, List.setIfInBounds_toArray, List.set_cons_zero, List.set_cons_succ])
            | (refine h_skip (i := 1) hHeld rfl (by kernel_rfl) (by kernel_rfl) (by kernel_rfl) ?_ ?_
               · rfl
               simp only [Act.put, List.setIfInBounds_toArray, List.set_cons_zero, List.set_cons_succ])
          first
            | (refine h_run (i := 2) (v := ?_) hHeld rfl (by kernel_rfl) (by kernel_rfl) (by kernel_rfl) ?_ ?_ ?_
               rotate_left
               · rfl
               · (intro x hSx; (try dsimp only at hSx); go_simp <;> with_reducible rfl)
               simp only [Act.put, List.setIfInBounds_toArray, List.set_cons_zero, List.set_cons_succ])
            | (refine h_skip (i := 2) hHeld rfl (by kernel_rfl) (by kernel_rfl) (by kernel_rfl) ?_ ?_
               · rfl
               simp only [Act.put, List.setIfInBounds_toArray, List.set_cons_zero, List.set_cons_succ])
          first
            | (refine h_run (i := 4) (v := ?_) hHeld rfl (by kernel_rfl) (by kernel_rfl) (by kernel_rfl) ?_ ?_ ?_
               rotate_left
               · rfl
               · (intro x hSx; (try dsimp only at hSx); go_simp <;> with_reducible rfl)
               simp only [Act.put, List.setIfInBounds_toArray, List.set_cons_zero, List.set_cons_succ])
            | (refine h_skip (i := 4) hHeld rfl (by kernel_rfl) (by kernel_rfl) (by kernel_rfl) ?_ ?_
               · rfl
               simp only [Act.put, List.setIfInBounds_toArray, List.set_cons_zero, List.set_cons_succ])
          first
            | (refine h_run (i := 5) (v := ?_) hHeld rfl (by kernel_rfl) (by kernel_rfl) (by kernel_rfl) ?_ ?_ ?_
               rotate_left
               · rfl
               · (intro x hSx; (try dsimp only at hSx); go_simp <;> with_reducible rfl)
               simp only [Act.put, List.setIfInBounds_toArray, List.set_cons_zero, List.set_cons_succ])
            | (refine h_skip (i := 5) hHeld rfl (by kernel_rfl) (by kernel_rfl) (by kernel_rfl) ?_ ?_
               · rfl
               simp only [Act.put, List.setIfInBounds_toArray, List.set_cons_zero, List.set_cons_succ])
          clear hHeld
          refine h_pair (i := 3) (j := 6) (v := .slice (some ⟨w.drew.heap.size, 0, none⟩) q q) (w1 := w.drew.alloc (.cells (madeCells #[.int .u8 0] q) 5)) (kb.out w.drew) rfl rfl (by kernel_rfl) rfl rfl ?_ ?_ trivial ?_ ?_
          · go_simp <;> exact hmk w.drew
          · go_simp <;> with_reducible rfl
          · refine h_call (i := 6) (fun _ => True) (fun _ h => h) (kb.out _) rfl (by kernel_rfl) rfl ?_ ?_
            · go_simp <;> with_reducible rfl
            rintro e w' ⟨s2, c2, rfl, hpv, hb2⟩
            refine ⟨_, rfl, trivial, ?_⟩
            have hb3 : Below w.heap.size w w' := (below_new w _).trans (hb2.mono (size_new w _))
            have hsz1 := hb3.size
            have hown0 := (own_made w.drew w.heap.size q (Nat.le_refl _) (by omega)).below hb2
            obtain ⟨v', w'', hrun, hown, hg, _⟩ := run_catB w' _ w.heap.size q (fun _ => 0) hown0 s2 c2 (q + 1) (bsF v (q + 1)) hpv.rd hpv.nil (by omega) hsz1 29
            have hbf := Lib.hid (hown0.belowB hb3 (Nat.le_refl _) hg)
            obtain ⟨so, co, rfl, hpo⟩ := hown.pv
            have hfin : Hid (OwnPost w (gmN v) (gmF v) (.returned (.slice so (q + (q + 1)) co)) w'') := hide (by
              have hgn' := hgn.out
              have hgm' := hgm.out
              rw [Nat.add_sub_cancel] at hgn' hgm'
              rw [← hgn'] at hgm' ⊢
              exact ⟨_, rfl, hown.congr hgm', hbf.out⟩)
            refine h_value (i := 7) (v := .slice so (q + (q + 1)) co) (w' := w'') (fun _ => True) (fun _ h => h) rfl (by kernel_rfl) rfl ?_ trivial ?_
            · exact exec_append (.tmp 17) (.tmp 20) _ _ rfl rfl rfl hrun
            have hHeld : (fun _ : World => True) w'' := trivial
            clear hpo hbf hown hown0 hpv hb2 hb3 hg hrun
            first
              | (refine h_run (i := 8) (v := ?_) hHeld rfl (by kernel_rfl) (by kernel_rfl) (by kernel_rfl) ?_ ?_ ?_
                 rotate_left
                 · rfl
                 · (intro x hSx; (try dsimp only at hSx); go_simp <;> with_reducible rfl)
                 simp only [Act.put, List.setIfInBounds_toArray, List.set_cons_zero, List.set_cons_succ])
              | (refine h_skip (i := 8) hHeld rfl (by kernel_rfl) (by kernel_rfl) (by kernel_rfl) ?_ ?_
                 · rfl
                 simp only [Act.put, List.setIfInBounds_toArray, List.set_cons_zero, List.set_cons_succ])
            refine h_done (by kernel_rfl) ?_
            go_wp2_with fail
            go_ret
            exact hfin.out
          · rintro e w' ⟨s2, c2, rfl, hpv, hb2⟩
            refine ⟨_, rfl, trivial, ?_⟩
            refine h_value (i := 3) (v := .slice (some ⟨w'.heap.size, 0, none⟩) q q) (w' := w'.alloc (.cells (madeCells #[.int .u8 0] q) 5)) (fun _ => True) (fun _ h => h) rfl (by kernel_rfl) rfl ?_ trivial ?_
            · go_simp <;> exact hmk w'
            have hb3 : Below w.heap.size w w' := (below_drewN (Below.refl w.heap.size w) 1).trans hb2
            have hb4 : Below w.heap.size w (w'.alloc (.cells (madeCells #[.int .u8 0] q) 5)) := hb3.trans ((below_new1 w' _).mono hb3.size)
            have hsz1 := hb4.size
            have hown0 := own_made w' w.heap.size q hb3.size (by omega)
            have hpv2 := hpv.below (below_new1 w' (.cells (madeCells #[.int .u8 0] q) 5))
            obtain ⟨v', w'', hrun, hown, hg, _⟩ := run_catB _ _ w.heap.size q (fun _ => 0) hown0 s2 c2 (q + 1) (bsF v (q + 1)) hpv2.rd hpv2.nil (by omega) hsz1 29
            have hbf := Lib.hid (hown0.belowB hb4 (Nat.le_refl _) hg)
            obtain ⟨so, co, rfl, hpo⟩ := hown.pv
            have hfin : Hid (OwnPost w (gmN v) (gmF v) (.returned (.slice so (q + (q + 1)) co)) w'') := hide (by
              have hgn' := hgn.out
              have hgm' := hgm.out
              rw [Nat.add_sub_cancel] at hgn' hgm'
              rw [← hgn'] at hgm' ⊢
              exact ⟨_, rfl, hown.congr hgm', hbf.out⟩)
            refine h_value (i := 7) (v := .slice so (q + (q + 1)) co) (w' := w'') (fun _ => True) (fun _ h => h) rfl (by kernel_rfl) rfl ?_ trivial ?_
            · exact exec_append (.tmp 17) (.tmp 20) _ _ rfl rfl rfl hrun
            have hHeld : (fun _ : World => True) w'' := trivial
            clear hpo hbf hown hown0 hpv hpv2 hb2 hb3 hb4 hg hrun
            first
              | (refine h_run (i := 8) (v := ?_) hHeld rfl (by kernel_rfl) (by kernel_rfl) (by kernel_rfl) ?_ ?_ ?_
                 rotate_left
                 · rfl
                 · (intro x hSx; (try dsimp only at hSx); go_simp <;> with_reducible rfl)
                 simp only [Act.put, List.setIfInBounds_toArray, List.set_cons_zero, List.set_cons_succ])
              | (refine h_skip (i := 8) hHeld rfl (by kernel_rfl) (by kernel_rfl) (by kernel_rfl) ?_ ?_
                 · rfl
                 simp only [Act.put, List.setIfInBounds_toArray, List.set_cons_zero, List.set_cons_succ])
            refine h_done (by kernel_rfl) ?_
            go_wp2_with fail
            go_ret
            exact hfin.out
theorem dr_gamma (v : Nat) (w : World) (hv : v < 18446744073709551616) :
    Calls Try.prog 11 #[.int .u64 (v : Nat)] w (PolyPost w (gmN v) (gmF v)) := (dr_gamma_own v w hv).mono fun _ _ h => h.poly
end Go.Proofs.Ytdpmhfpoendooaa

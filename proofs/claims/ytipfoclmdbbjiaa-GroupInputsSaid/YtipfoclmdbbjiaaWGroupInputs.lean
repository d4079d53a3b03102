import Derived.Test.YtipfoclmdbbjiaaU29
/- GroupInputs: the walk of the law. -/
namespace Go.Proofs.Ytipfoclmdbbjiaa
open Go.RowKit
set_option maxRecDepth 100000 in
theorem first_bad (p : Nat → Prop) (dec : ∀ i, p i ∨ ¬ p i) : ∀ m, ∃ q, q ≤ m ∧ (∀ i, i < q → p i) ∧ (q < m → ¬ p q)
  | 0 => ⟨0, Nat.le_refl _, fun i hi => absurd hi (by omega), fun h => absurd h (by omega)⟩
  | m + 1 => by
    obtain ⟨q, h1, h2, h3⟩ := first_bad p dec m
    by_cases hq : q < m
    · exact ⟨q, by omega, h2, fun _ => h3 hq⟩
    · obtain rfl : q = m := by omega
      rcases dec q with h | h
      · exact ⟨q + 1, Nat.le_refl _, fun i hi => by
          by_cases e : i = q
          · rw [e]; exact h
          · exact h2 i (by omega), fun h => absurd h (by omega)⟩
      · exact ⟨q, by omega, h2, fun _ => h⟩
set_option maxRecDepth 100000 in
theorem beq_self_i (n : Int) : (n != n) = false := by simp
attribute [local irreducible] getN
set_option maxRecDepth 100000 in
set_option maxHeartbeats 4000000 in
theorem groupInputs_walk (a0 : Option Addr) (len0 cap0 : Nat) (w : World) (w0 : IsRows w a0 len0 cap0) :
    Calls Try.prog 4 #[.slice a0 len0 cap0] w fun e w' => e = .returned (.bool true) ∧ Below w.heap.size w w' := by
  obtain ⟨G, hG⟩ := sh_open w0
  have hm18 : len0 ≤ 9223372036854775807 := by
    obtain ⟨_, _, _, _, _, h2, h3, _⟩ := w0
    unfold maxLen at h3
    omega
  have hGh := Lib.hid hG
  obtain ⟨q, hq, hgood, hbad⟩ := first_bad (fun i => (G i).length = 2) (fun i => Decidable.em _) len0
  have hgoodh := Lib.hid hgood
  have hbadh := Lib.hid hbad
  have kin := Lib.hid (fun y (h : ShAt y a0 len0 G) (hm : len0 ≤ 90000000) => s_inputs len0 q a0 cap0 G y h hq hm hgood hbad)
  clear w0 hG hgood hbad
  go_enter Try.func4, Try.ntmps4
  go_wp2_with fail
  refine (g_awake w).mono ?_
  rintro e w1 ⟨rfl, hb1⟩
  have hb1h := Lib.hid hb1
  clear hb1
  by_cases h100 : 100 < len0
  · have d0 : decide ((100 : Int) < (len0 : Int)) = true := decide_eq_true (by omega)
    have d1 : decide (100 < len0) = true := decide_eq_true (by omega)
    go_wp2_with fail
    go_ret
    exact ⟨rfl, hb1h.out⟩
  have d0 : decide ((100 : Int) < (len0 : Int)) = false := decide_eq_false (by omega)
  have d1 : decide (100 < len0) = false := decide_eq_false (by omega)
  go_wp2_with fail
  refine (kin.out w1 (hGh.out.below hb1h.out) (by omega)).mono ?_
  rintro e w2 (⟨rfl, v, rfl, ho, hb2⟩ | ⟨hqm, rfl, hb2⟩)
  · have hB := Lib.hid (hb1h.out.trans (hb2.mono hb1h.out.size))
    obtain ⟨sv, cv, rfl, hz, _⟩ := ho.open
    have hzh := Lib.hid hz
    have hG2 := Lib.hid (hGh.out.below hB.out)
    clear ho hb2 hz
    go_upto_region 7 with (fail)
    go_loop [5] (fun v5 => ∃ i : Nat, i ≤ q ∧ v5 = .int .i64 (i : Nat)) (fun v5 => q - (intOf v5).toNat)
    case atStart => exact ⟨0, by omega, rfl⟩
    case round =>
      obtain ⟨i, hi, rfl⟩ := hrel
      by_cases hiq : i < q
      · have i1 : (i : Int) < (q : Int) := by omega
        obtain ⟨b, off, a, k, rfl, hc, _⟩ := hG2.out i hiq
        have hl2 := hgoodh.out i hiq
        rw [hl2] at hc
        clear hl2
        go_wp2_with fail
        go_round
        case rel => exact ⟨i + 1, by omega, by go_num⟩
        case measure => simp [intOf]; omega
      · obtain rfl : i = q := by omega
        have i1 : decide ((i : Int) < (i : Int)) = false := by simp
        have i2 := beq_self_i (i : Int)
        go_upto_region 14 with (fail)
        go_loopw [6] (fun v6 wr => ∃ j : Nat, j ≤ i ∧ v6 = .int .i64 (j : Nat) ∧ Hid (Below w2.heap.size w2 wr)) (fun v6 _ => i - (intOf v6).toNat)
        case atStart => exact ⟨0, by omega, rfl, hide (Below.refl _ _)⟩
        case round =>
          obtain ⟨j, hj, rfl, hBr⟩ := hrel
          by_cases hji : j < i
          · have j1 : (j : Int) < (i : Int) := by omega
            obtain ⟨b, off, a, k, rfl, hc, hl, hbd, hk1, hk2⟩ := hG2.out j hji
            obtain ⟨b2, off2, rfl, hc2⟩ := hzh.out j hji
            have hl2 := hgoodh.out j hji
            have hxlt := inW_lt hl2 hbd
            have kget := Lib.hid (fun y hy => r_get a k (G j) y (slN_below hl hy) hbd hk1 (by unfold maxLen at hk2; omega))
            have hwi : inW G j = getN ((G j).take 8) := rfl
            have hc2 : w2.cell? ⟨b2, off2 + j, none⟩ = some (.int .u16 (inW G j : Nat)) := hc2
            rw [hwi] at hc2
            rw [hl2] at hc kget
            obtain ⟨X, hX⟩ : ∃ X, getN ((G j).take 8) = X := ⟨_, rfl⟩
            rw [hX] at hxlt kget hc2
            have hwx : IntKind.u64.wrap (X : Int) = (X : Int) := by rw [IntKind.wrap_u64]; omega
            have hxx := beq_self_i (X : Int)
            have hS : Hid (∀ y, Below w2.heap.size w2 y → (fun y : World => y.cell? ⟨b2, off2 + j, none⟩ = some (.int .u16 (X : Nat)) ∧ y.cell? ⟨b, off + j, none⟩ = some (.slice a 2 k)) y) := hide (fun y hy => ⟨(hy.cell (cell_block_lt hc2)).trans hc2, (hy.cell (cell_block_lt hc)).trans hc⟩)
            have hBd : Hid (Below w2.heap.size w2 wr.drew) := hide (below_drewN hBr.out 1)
            clear hc hl hbd hk1 hk2 hc2 hl2 hwi hX
            go_upto_region 16 with (fail)
            refine h_begin 11 (fun y : World => y.cell? ⟨b2, off2 + j, none⟩ = some (.int .u16 (X : Nat)) ∧ y.cell? ⟨b, off + j, none⟩ = some (.slice a 2 k)) rfl (by kernel_rfl) (hS.out _ hBd.out) ?_
            have hHeld : (fun y : World => y.cell? ⟨b2, off2 + j, none⟩ = some (.int .u16 (X : Nat)) ∧ y.cell? ⟨b, off + j, none⟩ = some (.slice a 2 k)) wr.drew := hS.out _ hBd.out
            first
              | (refine h_run (i := 0) (v := ?_) hHeld rfl (by kernel_rfl) (by kernel_rfl) (by kernel_rfl) ?_ ?_ ?_
                 rotate_left
                 · rfl
                 · (intro x hSx; (try dsimp only at hSx); go_simp <;> with_reducible rfl)
                 simp only [Act.put, List.setIfInBounds_toArray, List.set_cons_zero, List.set_cons_succ])
              | (refine h_skip (i := 0) hHeld rfl (by kernel_rfl) (by kernel_rfl) (by kernel_rfl) ?_ ?_
                 · rfl
                 simp only [Act.put, List.setIfInBounds_toArray, List.set_cons_zero, List.set_cons_succ])
            first
              | (refine h_run (i := 1) (v := ?_) hHeld rfl (by kernel_rfl) (by kernel_rfl) (by kernel_rfl) ?_ ?_ ?_
                 rotate_left
                 · rfl
                 · (intro x hSx; (try dsimp only at hSx); go_simp <;> with_reducible rfl)
                 simp only [Act.put, List.setIfInBounds_toArray, List.set_cons_zero, List.set_cons_succ])
              | (refine h_skip (i := 1) hHeld rfl (by kernel_rfl) (by kernel_rfl) (by kernel_rfl) ?_ ?_
                 · rfl
                 simp only [Act.put, List.setIfInBounds_toArray, List.set_cons_zero, List.set_cons_succ])
            first
              | (refine h_run (i := 2) (v := ?_) hHeld rfl (by kernel_rfl) (by kernel_rfl) (by kernel_rfl) ?_ ?_ ?_
                 rotate_left
                 · rfl
                 · (intro x hSx; (try dsimp only at hSx); go_simp <;> with_reducible rfl)
                 simp only [Act.put, List.setIfInBounds_toArray, List.set_cons_zero, List.set_cons_succ])
              | (refine h_skip (i := 2) hHeld rfl (by kernel_rfl) (by kernel_rfl) (by kernel_rfl) ?_ ?_
                 · rfl
                 simp only [Act.put, List.setIfInBounds_toArray, List.set_cons_zero, List.set_cons_succ])
            first
              | (refine h_run (i := 3) (v := ?_) hHeld rfl (by kernel_rfl) (by kernel_rfl) (by kernel_rfl) ?_ ?_ ?_
                 rotate_left
                 · rfl
                 · (intro x hSx; (try dsimp only at hSx); go_simp <;> with_reducible rfl)
                 simp only [Act.put, List.setIfInBounds_toArray, List.set_cons_zero, List.set_cons_succ])
              | (refine h_skip (i := 3) hHeld rfl (by kernel_rfl) (by kernel_rfl) (by kernel_rfl) ?_ ?_
                 · rfl
                 simp only [Act.put, List.setIfInBounds_toArray, List.set_cons_zero, List.set_cons_succ])
            first
              | (refine h_run (i := 4) (v := ?_) hHeld rfl (by kernel_rfl) (by kernel_rfl) (by kernel_rfl) ?_ ?_ ?_
                 rotate_left
                 · rfl
                 · (intro x hSx; (try dsimp only at hSx); go_simp <;> with_reducible rfl)
                 simp only [Act.put, List.setIfInBounds_toArray, List.set_cons_zero, List.set_cons_succ])
              | (refine h_skip (i := 4) hHeld rfl (by kernel_rfl) (by kernel_rfl) (by kernel_rfl) ?_ ?_
                 · rfl
                 simp only [Act.put, List.setIfInBounds_toArray, List.set_cons_zero, List.set_cons_succ])
            first
              | (refine h_run (i := 5) (v := ?_) hHeld rfl (by kernel_rfl) (by kernel_rfl) (by kernel_rfl) ?_ ?_ ?_
                 rotate_left
                 · rfl
                 · (intro x hSx; (try dsimp only at hSx); go_simp <;> with_reducible rfl)
                 simp only [Act.put, List.setIfInBounds_toArray, List.set_cons_zero, List.set_cons_succ])
              | (refine h_skip (i := 5) hHeld rfl (by kernel_rfl) (by kernel_rfl) (by kernel_rfl) ?_ ?_
                 · rfl
                 simp only [Act.put, List.setIfInBounds_toArray, List.set_cons_zero, List.set_cons_succ])
            first
              | (refine h_run (i := 6) (v := ?_) hHeld rfl (by kernel_rfl) (by kernel_rfl) (by kernel_rfl) ?_ ?_ ?_
                 rotate_left
                 · rfl
                 · (intro x hSx; (try dsimp only at hSx); go_simp <;> with_reducible rfl)
                 simp only [Act.put, List.setIfInBounds_toArray, List.set_cons_zero, List.set_cons_succ])
              | (refine h_skip (i := 6) hHeld rfl (by kernel_rfl) (by kernel_rfl) (by kernel_rfl) ?_ ?_
                 · rfl
                 simp only [Act.put, List.setIfInBounds_toArray, List.set_cons_zero, List.set_cons_succ])
            first
              | (refine h_run (i := 7) (v := ?_) hHeld rfl (by kernel_rfl) (by kernel_rfl) (by kernel_rfl) ?_ ?_ ?_
                 rotate_left
                 · rfl
                 · (intro x hSx; (try dsimp only at hSx); go_simp <;> with_reducible rfl)
                 simp only [Act.put, List.setIfInBounds_toArray, List.set_cons_zero, List.set_cons_succ])
              | (refine h_skip (i := 7) hHeld rfl (by kernel_rfl) (by kernel_rfl) (by kernel_rfl) ?_ ?_
                 · rfl
                 simp only [Act.put, List.setIfInBounds_toArray, List.set_cons_zero, List.set_cons_succ])
            first
              | (refine h_run (i := 8) (v := ?_) hHeld rfl (by kernel_rfl) (by kernel_rfl) (by kernel_rfl) ?_ ?_ ?_
                 rotate_left
                 · rfl
                 · (intro x hSx; (try dsimp only at hSx); go_simp <;> with_reducible rfl)
                 simp only [Act.put, List.setIfInBounds_toArray, List.set_cons_zero, List.set_cons_succ])
              | (refine h_skip (i := 8) hHeld rfl (by kernel_rfl) (by kernel_rfl) (by kernel_rfl) ?_ ?_
                 · rfl
                 simp only [Act.put, List.setIfInBounds_toArray, List.set_cons_zero, List.set_cons_succ])
            clear hHeld
            refine h_call (i := 9) (fun y : World => y.cell? ⟨b2, off2 + j, none⟩ = some (.int .u16 (X : Nat)) ∧ y.cell? ⟨b, off + j, none⟩ = some (.slice a 2 k)) (fun _ h => h) (kget.out wr.drew hBd.out) rfl (by kernel_rfl) rfl ?_ ?_
            · go_simp <;> with_reducible rfl
            rintro e w' ⟨rfl, rfl⟩
            have hHeld : (fun y : World => y.cell? ⟨b2, off2 + j, none⟩ = some (.int .u16 (X : Nat)) ∧ y.cell? ⟨b, off + j, none⟩ = some (.slice a 2 k)) wr.drew := hS.out _ hBd.out
            refine ⟨_, rfl, hHeld, ?_⟩
            first
              | (refine h_run (i := 10) (v := ?_) hHeld rfl (by kernel_rfl) (by kernel_rfl) (by kernel_rfl) ?_ ?_ ?_
                 rotate_left
                 · rfl
                 · (intro x hSx; (try dsimp only at hSx); go_simp <;> with_reducible rfl)
                 simp only [Act.put, List.setIfInBounds_toArray, List.set_cons_zero, List.set_cons_succ])
              | (refine h_skip (i := 10) hHeld rfl (by kernel_rfl) (by kernel_rfl) (by kernel_rfl) ?_ ?_
                 · rfl
                 simp only [Act.put, List.setIfInBounds_toArray, List.set_cons_zero, List.set_cons_succ])
            refine h_done (by kernel_rfl) ?_
            clear hHeld
            go_wp2_with fail
            go_roundw
            case rel => exact ⟨j + 1, by omega, by go_num, hBd⟩
            case measure => simp [intOf]; omega
          · obtain rfl : j = i := by omega
            have j1 : decide ((j : Int) < (j : Int)) = false := by simp
            have hBf := Lib.hid (hB.out.trans (hBr.out.mono hB.out.size))
            go_wp2_with fail
            go_ret
            exact ⟨rfl, hBf.out⟩
  · have hB := Lib.hid (hb1h.out.trans (hb2.mono hb1h.out.size))
    have hG2 := Lib.hid (hGh.out.below hB.out)
    clear hb2
    go_upto_region 7 with (fail)
    go_loop [5] (fun v5 => ∃ i : Nat, i ≤ q ∧ v5 = .int .i64 (i : Nat)) (fun v5 => len0 - (intOf v5).toNat)
    case atStart => exact ⟨0, by omega, rfl⟩
    case round =>
      obtain ⟨i, hi, rfl⟩ := hrel
      have i1 : (i : Int) < (len0 : Int) := by omega
      obtain ⟨b, off, a, k, rfl, hc, _⟩ := hG2.out i (by omega)
      by_cases hiq : i < q
      · have hl2 := hgoodh.out i hiq
        rw [hl2] at hc
        clear hl2
        go_wp2_with fail
        go_round
        case rel => exact ⟨i + 1, by omega, by go_num⟩
        case measure => simp [intOf]; omega
      · obtain rfl : i = q := by omega
        have hl2 := bne_two _ (hbadh.out hqm)
        go_wp2_with fail
        go_ret
        exact ⟨rfl, hB.out⟩
end Go.Proofs.Ytipfoclmdbbjiaa

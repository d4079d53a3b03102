/- The walk of the law PolyThrough: it answers true for every list of points. -/
import Derived.Test.YtmdpbacjcidpgaaPolyAwake
import Derived.Test.YtmdpbacjcidpgaaRec
namespace Go.Proofs.Ytmdpbacjcidpgaa
open Go.RowKit
theorem pts_open {w : World} {a : Option Addr} {len cap : Nat} (h : IsRec [some .u8, some .u8] w a len cap) : ∃ X Y : Nat → Nat, PtsAt w a len X Y ∧ (∀ k, X k < 256) ∧ (∀ k, Y k < 256) := by
  obtain ⟨f, hk, hc, _⟩ := h
  have key : ∀ i, ∃ o : Nat × Nat, o.1 < 256 ∧ o.2 < 256 ∧ (i < len → f i 0 = .int .u8 (o.1 : Nat) ∧ f i 1 = .int .u8 (o.2 : Nat)) := by
    intro i
    by_cases hi : i < len
    · obtain ⟨t, h0, w0⟩ := (hk i 0 (some .u8) hi rfl).int
      obtain ⟨l, h1, w1⟩ := (hk i 1 (some .u8) hi rfl).int
      obtain ⟨t', rfl, ht⟩ := u8_nat w0
      obtain ⟨l', rfl, hl⟩ := u8_nat w1
      exact ⟨⟨t', l'⟩, ht, hl, fun _ => ⟨h0, h1⟩⟩
    · exact ⟨⟨0, 0⟩, (by decide : 0 < 256), (by decide : 0 < 256), fun h => absurd h hi⟩
  refine ⟨fun i => (key i).choose.1, fun i => (key i).choose.2, fun i hi => ?_, fun i => (key i).choose_spec.1, fun i => (key i).choose_spec.2.1⟩
  obtain ⟨h0, h1⟩ := (key i).choose_spec.2.2 hi
  obtain ⟨b, off, ha, hcell⟩ := hc i hi
  refine ⟨b, off, ha, ?_, ?_⟩
  · rw [← h0]; exact hcell 0 (by decide)
  · rw [← h1]; exact hcell 1 (by decide)
theorem thru_ev (X Y : Nat → Nat) (hX : ∀ k, X k < 256) (hY : ∀ k, Y k < 256) (n m : Nat) (hm : m < n) (hd : ∀ a b, a < n → b < n → a ≠ b → X a ≠ X b) : ev (lgF X Y n n) (X m) (td (lgF X Y n n) n) = Y m := by
  have hz := (lg_facts X Y hX n n (Nat.le_refl _)).2
  rw [← ev_stop _ _ _ n (td_zr _ n hz) (td_le _ n), lg_ev X Y hX hY n n m (Nat.le_refl _) hm hd, if_pos hm]
theorem td_td (f : Nat → Nat) (n : Nat) : td f (td f n) = td f n := by
  refine td_uniq _ _ _ (fun i h1 h2 => by omega) (td_top f n) (Nat.le_refl _)
attribute [local irreducible] gexp gtbl glog rmul rinv rpow zexp
attribute [local irreducible] td cvs cv mixF xf OwnB lbF prF lgF linF oneF fcN ev hv
set_option maxRecDepth 100000 in
set_option maxHeartbeats 2000000 in
theorem polyThrough_walk (a0 : Option Addr) (len0 cap0 : Nat) (w : World) (w0 : IsRec [some .u8, some .u8] w a0 len0 cap0) :
    Calls Try.prog 3 #[.slice a0 len0 cap0] w fun e w' => e = .returned (.bool true) ∧ Below w.heap.size w w' := by
  obtain ⟨X, Y, hp, hX, hY⟩ := pts_open w0
  have hln : len0 ≤ 9223372036854775807 := by obtain ⟨_, _, _, h1, h2, _⟩ := w0; unfold maxLen at h2; omega
  clear w0
  by_cases hs : 40 < len0
  · have d1 : decide (40 < (len0 : Int)) = true := decide_eq_true (by omega)
    clear hp hX hY
    go_enter Try.func3, Try.ntmps3
    go_wp2_with fail
    refine (po_awake w).mono ?_
    rintro e w1 ⟨rfl, hb1⟩
    go_wp2_with fail
    go_ret
    exact ⟨rfl, hb1⟩
  have hl : len0 ≤ 40 := by omega
  have hph := Lib.hid hp
  have hXh := Lib.hid hX
  by_cases h2 : Twice X len0
  · have kt := Lib.hid (fun p W (h : PtsAt W a0 len0 X Y) => p_through_no p a0 len0 cap0 X Y W h hX (by omega) h2)
    have h2h := Lib.hid h2
    clear hp hX hY h2
    go_enter Try.func3, Try.ntmps3
    go_wp2_with fail
    refine (po_awake w).mono ?_
    rintro e w1 ⟨rfl, hb1⟩
    go_wp2_with fail
    refine (gf_new w1).mono ?_
    rintro e w2 ⟨rfl, n, hw2⟩
    have hb2 : Below w.heap.size w w2 := by rw [hw2]; exact below_drewN (hb1.alloc hb1.size _) _
    clear hw2 hb1
    have hb2h := Lib.hid hb2
    clear hb2
    go_wp2_with fail
    refine (kt.out _ w2 (hph.out.below hb2h.out)).mono ?_
    rintro e w3 ⟨rfl, q3⟩
    have hb3 := Lib.hid (below_step hb2h.out hb2h.out.size q3)
    clear q3
    go_wp2_with fail
    go_loopw [5] (fun v wr => ∃ i : Nat, i ≤ len0 ∧ v = .int .i64 i ∧ Hid (∀ a b, b < a → a < i → X a ≠ X b) ∧ Below w.heap.size w wr) (fun v _ => len0 - (intOf v).toNat)
    case atStart => exact ⟨0, Nat.zero_le _, rfl, hide (fun a b _ h => absurd h (by omega)), hb3.out⟩
    case round =>
      obtain ⟨i, hi, rfl, hq, hB⟩ := hrel
      by_cases hil : i < len0
      · have i1 : (i : Int) < (len0 : Int) := by omega
        have hBh := Lib.hid hB
        clear hB hb3
        go_upto_region 10 with (fail)
        go_loopw [6] (fun v wx => ∃ k : Nat, k ≤ i ∧ v = .int .i64 k ∧ Hid (∀ b, b < k → X i ≠ X b) ∧ Below w.heap.size w wx) (fun v _ => i - (intOf v).toNat)
        case atStart => exact ⟨0, Nat.zero_le _, rfl, hide (fun b h => absurd h (by omega)), hBh.out⟩
        case round =>
          obtain ⟨k, hk, rfl, hqk, hB⟩ := hrel
          clear hBh
          by_cases hki : k < i
          · obtain ⟨b, off, rfl, q0, q1⟩ := hph.out i hil
            obtain ⟨b2, off2, hbe, q2, _⟩ := hph.out k (by omega)
            injection hbe with hbe
            injection hbe with e1 e2
            subst e1 e2
            have c0 := (hB.cell (p := ⟨b, off + i * 2, none⟩) (cell_block_lt q0)).trans q0
            have c1 := (hB.cell (p := ⟨b, off + k * 2, none⟩) (cell_block_lt q2)).trans q2
            have i2 : (k : Int) < (len0 : Int) := by omega
            have i3 : (k : Int) < (i : Int) := by omega
            clear q0 q1 q2
            have hpar : X i = X k ∨ X i ≠ X k := by by_cases h : X i = X k; exact .inl h; exact .inr h
            have hqk2 := Lib.hid (fun (hne : X i ≠ X k) (b : Nat) (hb : b < k + 1) => (by by_cases e : b = k; subst e; exact hne; exact hqk.out b (by omega) : X i ≠ X b))
            generalize X i = x at *
            generalize X k = y at *
            rcases hpar with hpar | hpar
            · subst hpar
              have hBh := Lib.hid hB
              clear hB
              go_upto_region 12 with (fail)
              have hB := hBh.out
              go_quiet (fail)
              go_wp2_with fail
              go_ret
              exact ⟨rfl, below_drewN hBh.out _⟩
            · have d1 : (((x : Nat) : Int) == ((y : Nat) : Int)) = false := by simp; omega
              have d2 : ((x : Nat) == (y : Nat)) = false := by simp; omega
              have hqk3 := Lib.hid (hqk2.out hpar)
              clear hpar
              have hBh := Lib.hid hB
              clear hB
              go_upto_region 12 with (fail)
              go_quiet (fail)
              go_wp2_with fail
              go_roundw
              case rel => exact ⟨k + 1, by omega, by go_num, hqk3, below_drewN hBh.out _⟩
              case measure => simp [intOf]; omega
          · obtain rfl : k = i := by omega
            have hqn : Hid (∀ a b, b < a → a < k + 1 → X a ≠ X b) := hide (fun a b h1 h2 => by
              by_cases e : a = k
              · subst e; exact hqk.out b h1
              · exact hq.out a b h1 (by omega))
            go_wp2_with fail
            go_roundw
            case rel => exact ⟨k + 1, by omega, by go_num, hqn, hB⟩
            case measure => simp [intOf]; omega
      · exfalso
        obtain ⟨a, b, q1, q2, q3⟩ := h2h.out
        exact hq.out a b q1 (by omega) q3
  · have hd : ∀ a b, a < len0 → b < len0 → a ≠ b → X a ≠ X b := by
      intro a b ha hb hne e
      by_cases h : b < a
      · exact h2 ⟨a, b, h, ha, e⟩
      · exact h2 ⟨b, a, by omega, hb, e.symm⟩
    have kt := Lib.hid (fun p W (hg : IsGf W p) (h : PtsAt W a0 len0 X Y) => p_through p a0 len0 cap0 X Y W hg h hX hY (by omega) hd)
    have hdh := Lib.hid hd
    have hlt := td_le (lgF X Y len0 len0) len0
    have hev := Lib.hid (fun m hm => thru_ev X Y hX hY len0 m hm hd)
    have hbdl := (lg_facts X Y hX len0 len0 (Nat.le_refl _)).1
    have hYh := Lib.hid hY
    have htt := td_td (lgF X Y len0 len0) len0
    generalize td (lgF X Y len0 len0) len0 = N at *
    generalize lgF X Y len0 len0 = F at *
    have kd := Lib.hid (fun W s c (h : Pv W s N c F) => r_degree s N c F W h (by omega))
    rw [htt] at kd
    have ke := Lib.hid (fun W s c (m : Nat) (h : Pv W s N c F) => r_eval s N c (X m) F W h.rd (by omega) (hX m) hbdl)
    clear hp hX hY h2 hd htt hbdl
    go_enter Try.func3, Try.ntmps3
    go_wp2_with fail
    refine (po_awake w).mono ?_
    rintro e w1 ⟨rfl, hb1⟩
    go_wp2_with fail
    refine (gf_new w1).mono ?_
    rintro e w2 ⟨rfl, n, hw2⟩
    have hg2 : IsGf w2 w1.heap.size := by rw [hw2]; exact IsGf.made w1 n
    have hb2 : Below w.heap.size w w2 := by rw [hw2]; exact below_drewN (hb1.alloc hb1.size _) _
    clear hw2 hb1
    have hb2h := Lib.hid hb2
    have hg2h := Lib.hid hg2
    clear hb2 hg2
    go_wp2_with fail
    refine (kt.out _ w2 hg2h.out (hph.out.below hb2h.out)).mono ?_
    rintro e w3 ⟨g3, c3, rfl, y1, y2, y3, y4, q3⟩
    have hb3 := Lib.hid (below_step hb2h.out hb2h.out.size q3)
    have hp3 := Lib.hid (Pv.row y3 y1 y2)
    clear q3 y3
    go_wp2_with fail
    go_loopw [5] (fun v wr => ∃ i : Nat, i ≤ len0 ∧ v = .int .i64 i ∧ Below w3.heap.size w3 wr) (fun v _ => len0 - (intOf v).toNat)
    case atStart => exact ⟨0, Nat.zero_le _, rfl, Below.refl _ _⟩
    case round =>
      obtain ⟨i, hi, rfl, hB⟩ := hrel
      by_cases hil : i < len0
      · have i1 : (i : Int) < (len0 : Int) := by omega
        have hBh := Lib.hid hB
        clear hB
        go_upto_region 10 with (fail)
        go_loopw [6] (fun v wx => ∃ k : Nat, k ≤ i ∧ v = .int .i64 k ∧ Below w3.heap.size w3 wx) (fun v _ => i - (intOf v).toNat)
        case atStart => exact ⟨0, Nat.zero_le _, rfl, hBh.out⟩
        case round =>
          obtain ⟨k, hk, rfl, hB⟩ := hrel
          clear hBh
          by_cases hki : k < i
          · obtain ⟨b, off, rfl, q0, q1⟩ := hph.out i hil
            obtain ⟨b2, off2, hbe, q2, _⟩ := hph.out k (by omega)
            injection hbe with hbe
            injection hbe with e1 e2
            subst e1 e2
            have hBw := below_step hb3.out hb3.out.size hB
            have c0 := (hBw.cell (p := ⟨b, off + i * 2, none⟩) (cell_block_lt q0)).trans q0
            have c1 := (hBw.cell (p := ⟨b, off + k * 2, none⟩) (cell_block_lt q2)).trans q2
            have i2 : (k : Int) < (len0 : Int) := by omega
            have i3 : (k : Int) < (i : Int) := by omega
            have hpar := hdh.out i k hil (by omega) (by omega)
            clear q0 q1 q2 hBw
            generalize X i = x at *
            generalize X k = y at *
            have d1 : (((x : Nat) : Int) == ((y : Nat) : Int)) = false := by simp; omega
            have d2 : ((x : Nat) == (y : Nat)) = false := by simp; omega
            have hBh := Lib.hid hB
            clear hB hpar
            go_upto_region 12 with (fail)
            go_quiet (fail)
            go_wp2_with fail
            go_roundw
            case rel => exact ⟨k + 1, by omega, by go_num, below_drewN hBh.out _⟩
            case measure => simp [intOf]; omega
          · obtain rfl : k = i := by omega
            go_wp2_with fail
            go_roundw
            case rel => exact ⟨k + 1, by omega, by go_num, hB⟩
            case measure => simp [intOf]; omega
      · obtain rfl : i = len0 := by omega
        have hBh := Lib.hid hB
        have hpd := Lib.hid (kd.out wr _ c3 (hp3.out.below hB))
        have d1 : decide (i < N) = false := decide_eq_false (by omega)
        clear hB kd
        go_wp2_with fail
        refine hpd.out.mono ?_
        rintro e w' ⟨rfl, rfl⟩
        go_wp2_with fail
        go_loopw [7] (fun v wx => ∃ m : Nat, m ≤ i ∧ v = .int .i64 m ∧ Below w3.heap.size w3 wx) (fun v _ => i - (intOf v).toNat)
        case atStart => exact ⟨0, Nat.zero_le _, rfl, hBh.out⟩
        case round =>
          obtain ⟨m, hm, rfl, hB⟩ := hrel
          clear hBh hpd
          by_cases hmi : m < i
          · obtain ⟨b, off, rfl, q0, q1⟩ := hph.out m hmi
            have h0 := cell_block_lt q0
            have i3 : (m : Int) < (i : Int) := by omega
            have hin := Lib.hid (fun (x : World) (hb : Below w3.heap.size w3 x) => (⟨((below_step hb3.out hb3.out.size hb).cell (p := ⟨b, off + m * 2, none⟩) h0).trans q0, ((below_step hb3.out hb3.out.size hb).cell (p := ⟨b, off + m * 2 + 1, none⟩) h0).trans q1, hb⟩ : x.cell? ⟨b, off + m * 2, none⟩ = some (.int .u8 (X m : Nat)) ∧ x.cell? ⟨b, off + m * 2 + 1, none⟩ = some (.int .u8 (Y m : Nat)) ∧ Below w3.heap.size w3 x))
            have hclh := Lib.hid (fun (x x' : World) (h : x.cell? ⟨b, off + m * 2, none⟩ = some (.int .u8 (X m : Nat)) ∧ x.cell? ⟨b, off + m * 2 + 1, none⟩ = some (.int .u8 (Y m : Nat)) ∧ Below w3.heap.size w3 x) (hb : Below x.heap.size x x') => hin.out x' (below_step h.2.2 h.2.2.size hb))
            have kev := Lib.hid (fun (x : World) (h : x.cell? ⟨b, off + m * 2, none⟩ = some (.int .u8 (X m : Nat)) ∧ x.cell? ⟨b, off + m * 2 + 1, none⟩ = some (.int .u8 (Y m : Nat)) ∧ Below w3.heap.size w3 x) => ret_same (ke.out x _ c3 m (hp3.out.below h.2.2)))
            rw [hev.out m hmi] at kev
            have hst := Lib.hid (hin.out wr.drew (below_drewN hB 1))
            clear q0 q1 hB
            generalize X m = x at *
            generalize Y m = y at *
            go_upto_region 19 with (fail)
            refine wp_region_quiet (C := fun W => W.cell? ⟨b, off + m * 2, none⟩ = some (.int .u8 (x : Nat)) ∧ W.cell? ⟨b, off + m * 2 + 1, none⟩ = some (.int .u8 (y : Nat)) ∧ Below w3.heap.size w3 W) (by kernel_rfl) (by kernel_rfl) hst.out ?_
            repeat (first
              | (refine q_run (v := ?_) ?_ ?_ ?_
                 rotate_left
                 · rfl
                 · (intro x hSx; (try dsimp only at hSx); go_simp <;> with_reducible rfl)
                 simp only [Act.put, List.setIfInBounds_toArray, List.set_cons_zero, List.set_cons_succ])
              | (refine q_skip ?_ ?_
                 · rfl
                 simp only [Act.put, List.setIfInBounds_toArray, List.set_cons_zero, List.set_cons_succ])
              | (refine q_call (fun x hCx => kev.out x hCx) hclh.out ?_ ?_ ?_
                 · rfl
                 · (intro x hSx; (try dsimp only at hSx); go_simp <;> with_reducible rfl)
                 simp only [Act.put, List.setIfInBounds_toArray, List.set_cons_zero, List.set_cons_succ]))
            refine wpQuiet_nil ?_
            intro x hSx
            have hfin := Lib.hid hSx.2.2
            clear hSx hin hclh kev hst
            go_wp2_with fail
            go_roundw
            case rel => exact ⟨m + 1, by omega, by go_num, hfin.out⟩
            case measure => simp [intOf]; omega
          · obtain rfl : m = i := by omega
            go_wp2_with fail
            go_ret
            exact ⟨rfl, below_step hb3.out hb3.out.size hB⟩
end Go.Proofs.Ytmdpbacjcidpgaa

/- ShakeMeets: the walk of the law. -/
import Derived.Test.YtdpngimcmohmaaaShLoop
import Derived.Deep.QuietTactic
import Derived.Deep.DeepCutAuto
import Derived.IntWalk
namespace Go.Proofs.Ytdpngimcmohmaaa
open Go.RowKit
attribute [local irreducible] tokZ rsA dgmA dgA opA dBuild blk wLoad wLoadRes loadAns wStore wStoreRes storeAns Plain shA StOk e1S
attribute [local go_sem ↓] dBuild_of ld_rs0 sto_rs0 ld_dg0 sto_dg0
attribute [local go_sem] dBuild_0 dBuild_5 dBuild_6 ld_rs sto_rs ld_dg sto_dg loadAns_some storeAns_some rs_size rs_plain dg_size dg_plain dgA_size blk_alloc_if blk_setRow_if blk_drew_at blk_drewN_at rowPut_some
set_option maxRecDepth 100000 in
set_option maxHeartbeats 16000000 in
theorem shakeMeets_walk (a0 a1 : Int) (a2 : Option Addr) (len2 cap2 : Nat) (w : World) (w0 : (Lit.int .u32 a0).wf = true) (w1 : (Lit.int .u32 a1).wf = true) (w2 : IsRecK [.i .i64, .i .i64, .i .u32, .i .u32, .i .i64, .i .u32, .i .u32, .i .u32, .i .i64, .i .i64, .i .i64, .s, .i .i64] w a2 len2 cap2) :
    Calls Try.prog 4 #[.int .u32 a0, .int .u32 a1, .slice a2 len2 cap2] w fun e w' => e = .returned (.bool true) ∧ Below w.heap.size w w' := by
  have hops := Lib.hid (ops_open w2)
  have hlen : len2 ≤ cap2 := by obtain ⟨_, _, _, h, _⟩ := w2; exact h
  have hcap : cap2 ≤ maxLen := by obtain ⟨_, _, _, _, h, _⟩ := w2; exact h
  unfold maxLen at hcap
  have hE0 := Lib.hid (fun j => e0S_b (u32_range w0) (u32_range w1) j)
  clear w0 w1 w2
  go_enter Try.func4, Try.ntmps4
  go_wp2_with fail
  refine (shake_awake w).mono ?_
  rintro e X ⟨rfl, hbX⟩
  have hBX := Lib.hid hbX
  clear hbX
  go_wp2_with fail
  refine (s_new a0 X).mono ?_
  rintro e X1 ⟨rfl, rfl⟩
  go_wp2_with fail
  refine (s_new a1 _).mono ?_
  rintro e X2 ⟨rfl, rfl⟩
  go_upto_region 5 with (fail)
  have hM0 : Hid (MtAt w _ (X.heap.size + 1 + 1) (X.heap.size + 1 + 1 + 1) (fun j => X.heap.size + j) (e0S a0 a1) (fun _ => .slice none 0 0) (fun _ => [])) := hide (mt_start w X ⟨0, a0, 0, 0, 0, 0⟩ ⟨0, a1, 0, 0, 0, 0⟩ hBX.out)
  have hz := zeroDg
  generalize World.alloc (World.alloc (World.alloc (World.alloc X _) _) _) _ = W0 at *
  obtain ⟨t8, ht8⟩ : ∃ t, X.heap.size + 1 + 1 + 1 = t := ⟨_, rfl⟩
  rw [ht8] at hM0 ⊢
  clear ht8
  obtain ⟨t7, ht7⟩ : ∃ t, X.heap.size + 1 + 1 = t := ⟨_, rfl⟩
  rw [ht7] at hM0 ⊢
  clear ht7
  generalize (fun j : Nat => X.heap.size + j) = p at *
  generalize e0S a0 a1 = e0 at *
  have hE1 : Hid (StOk e0 0) := hide (by unfold StOk; exact fun j _ => ⟨fun h => absurd h (by omega), fun _ => hE0.out j⟩)
  clear hE0
  go_upto_region 6 with (fail)
  go_loopw [9] (fun v9 wr => ∃ (k : Nat) (e : Nat → ShS) (v : Nat → Value) (Q : Nat → List Msg), k ≤ 2 ∧ v9 = .int .i64 (k : Nat) ∧ Hid (MtAt w wr t7 t8 p e v Q) ∧ Hid (StOk e k) ∧ (Q 0).length + (Q 1).length ≤ k) (fun v9 _ => 2 - (intOf v9).toNat)
  case atStart => exact ⟨0, e0, _, _, by omega, rfl, hM0, hE1, by simp⟩
  case round =>
    obtain ⟨k, e, v, Q, hk, rfl, hM, hE, hQ⟩ := hrel
    clear hM0 hE1
    by_cases hk2 : k < 2
    · have i1 : (k : Int) < 2 := by omega
      obtain ⟨o, hko⟩ : ∃ o, k + o = 1 := ⟨1 - k, by omega⟩
      have ho : o < 2 := by omega
      have i2 : IntKind.i64.wrap ((1 : Int) - (k : Int)) = (o : Int) := by rw [show (1 : Int) - (k : Int) = (o : Int) by omega]; exact IntWalk.i64_in _ (by omega)
      have i3 : (o : Int) < 2 := by omega
      obtain ⟨hB0, hst, hrd⟩ := (by have := hE.out; unfold StOk at this; exact (this k hk2).2 (Nat.le_refl _) : ShB (e k) 0 ∧ (e k).st = 0 ∧ (e k).rd = 0)
      have c7 := hM.out.ptr hk2
      have hst1 : Hid (Calls Try.prog 10 #[.pointer (some ⟨p k, 0, none⟩)] wr (ShPost wr (p k) (e1S (e k)) (.tuple #[.agg (dgmA 1 (tokZ (e k).own (e k).rd) 0), .int .i64 0]))) := hide (by unfold e1S; exact s_start (p k) (e k) wr (hM.out.sh k hk2) (hB0.ok (by omega)) hst)
      have hEn := Lib.hid (hE.out.next hk2)
      clear hB0 hst hrd hE
      go_wp2_with fail
      refine hst1.out.mono ?_
      rintro _ w2 ⟨rfl, hs2, hg2⟩
      have hM2 := Lib.hid (hM.out.call hk2 hs2 hg2)
      clear hst1 hs2 hg2 c7
      go_upto_region 11 with (fail)
      obtain ⟨tk, htk⟩ : ∃ t, tokZ (e k).own (e k).rd = t := ⟨_, rfl⟩
      rw [htk]
      obtain ⟨q1, _, q3, q4⟩ := box_one w2 (dgmA 0 0 0) (dgmA 1 tk 0) 34
      have hM3 := Lib.hid (hM2.out.below q4)
      have hX3 := Lib.hid (blk_heap q1)
      obtain ⟨tx, htx⟩ : ∃ t, w2.heap.size = t := ⟨_, rfl⟩
      have hXne : Hid (∀ o, o < 2 → (v o).ownBlock ≠ some tx) := hide (fun o ho e => by have := hM2.out.blt ho _ e; omega)
      generalize World.setRow (World.alloc w2 _) _ _ = W3 at *
      rw [htx] at hX3 ⊢
      clear q1 q3 q4 htx htk
      have hlq : (Q o).length ≤ 100000 := by rcases two_cases ho with rfl | rfl <;> omega
      clear hM2 hM
      go_upto_region 13 with (fail)
      have hMd := Lib.hid (hM3.out.below (below_drewN (Below.refl _ _) 1))
      have hXd : Hid (W3.drew.heap[tx]? = some (.cells (dgmA 1 tk 0) 34 (0, 0))) := hide hX3.out
      have hXs : Hid (∀ y, Below W3.drew.heap.size W3.drew y → (fun y : World => blk y tx = some (.cells (dgmA 1 tk 0) 34 (0, 0))) y) := hide (fun y hy => blk_of ((hy.block _ (Array.getElem?_eq_some_iff.1 hXd.out).1).trans hXd.out))
      have hHeld := hXs.out _ (Below.refl _ _)
      refine h_begin 11 (fun y : World => blk y tx = some (.cells (dgmA 1 tk 0) 34 (0, 0))) rfl (by kernel_rfl) hHeld ?_
      first
        | (refine h_run (i := 0) (v := ?_) hHeld rfl (by kernel_rfl) (by kernel_rfl) (by kernel_rfl) ?_ ?_ ?_
           rotate_left
           · rfl
           · (intro x hSx; (try dsimp only at hSx); go_simp <;> with_reducible rfl)
           simp only [Act.put, List.setIfInBounds_toArray, List.set_cons_zero, List.set_cons_succ])
        | (refine h_skip (i := 0) hHeld rfl (by kernel_rfl) (by kernel_rfl) (by kernel_rfl) ?_ ?_
           · rfl
           simp only [Act.put, List.setIfInBounds_toArray, List.set_cons_zero, List.set_cons_succ])
      first
        | (refine h_run (i := 1) (v := ?_) hHeld rfl (by kernel_rfl) (by kernel_rfl) (by kernel_rfl) ?_ ?_ ?_
           rotate_left
           · rfl
           · (intro x hSx; (try dsimp only at hSx); go_simp <;> with_reducible rfl)
           simp only [Act.put, List.setIfInBounds_toArray, List.set_cons_zero, List.set_cons_succ])
        | (refine h_skip (i := 1) hHeld rfl (by kernel_rfl) (by kernel_rfl) (by kernel_rfl) ?_ ?_
           · rfl
           simp only [Act.put, List.setIfInBounds_toArray, List.set_cons_zero, List.set_cons_succ])
      first
        | (refine h_run (i := 2) (v := ?_) hHeld rfl (by kernel_rfl) (by kernel_rfl) (by kernel_rfl) ?_ ?_ ?_
           rotate_left
           · rfl
           · (intro x hSx; (try dsimp only at hSx); go_simp <;> with_reducible rfl)
           simp only [Act.put, List.setIfInBounds_toArray, List.set_cons_zero, List.set_cons_succ])
        | (refine h_skip (i := 2) hHeld rfl (by kernel_rfl) (by kernel_rfl) (by kernel_rfl) ?_ ?_
           · rfl
           simp only [Act.put, List.setIfInBounds_toArray, List.set_cons_zero, List.set_cons_succ])
      first
        | (refine h_run (i := 3) (v := ?_) hHeld rfl (by kernel_rfl) (by kernel_rfl) (by kernel_rfl) ?_ ?_ ?_
           rotate_left
           · rfl
           · (intro x hSx; (try dsimp only at hSx); go_simp <;> with_reducible rfl)
           simp only [Act.put, List.setIfInBounds_toArray, List.set_cons_zero, List.set_cons_succ])
        | (refine h_skip (i := 3) hHeld rfl (by kernel_rfl) (by kernel_rfl) (by kernel_rfl) ?_ ?_
           · rfl
           simp only [Act.put, List.setIfInBounds_toArray, List.set_cons_zero, List.set_cons_succ])
      first
        | (refine h_run (i := 4) (v := ?_) hHeld rfl (by kernel_rfl) (by kernel_rfl) (by kernel_rfl) ?_ ?_ ?_
           rotate_left
           · rfl
           · (intro x hSx; (try dsimp only at hSx); go_simp <;> with_reducible rfl)
           simp only [Act.put, List.setIfInBounds_toArray, List.set_cons_zero, List.set_cons_succ])
        | (refine h_skip (i := 4) hHeld rfl (by kernel_rfl) (by kernel_rfl) (by kernel_rfl) ?_ ?_
           · rfl
           simp only [Act.put, List.setIfInBounds_toArray, List.set_cons_zero, List.set_cons_succ])
      first
        | (refine h_run (i := 6) (v := ?_) hHeld rfl (by kernel_rfl) (by kernel_rfl) (by kernel_rfl) ?_ ?_ ?_
           rotate_left
           · rfl
           · (intro x hSx; (try dsimp only at hSx); go_simp <;> with_reducible rfl)
           simp only [Act.put, List.setIfInBounds_toArray, List.set_cons_zero, List.set_cons_succ])
        | (refine h_skip (i := 6) hHeld rfl (by kernel_rfl) (by kernel_rfl) (by kernel_rfl) ?_ ?_
           · rfl
           simp only [Act.put, List.setIfInBounds_toArray, List.set_cons_zero, List.set_cons_succ])
      clear hHeld
      have hal : Hid (Below W3.drew.heap.size W3.drew (W3.drew.alloc (.cells (dgmA 1 tk 0) 34))) := hide ((Below.refl _ _).alloc (Nat.le_refl _) _)
      have hMa := Lib.hid (hMd.out.below hal.out)
      obtain ⟨v6, hM7w, hr6, hq6, hg6, hf6⟩ := q_push (hMa.out.qu o ho) hMa.out.lo.size hlq W3.drew.heap.size (tk, 0) (last_block0 W3.drew (.cells (dgmA 1 tk 0) 34) _ rfl) 30
      obtain ⟨s6, c6, hv6⟩ := hq6.form
      rw [List.length_append] at hv6
      replace hv6 : v6 = (.slice s6 ((Q o).length + 1) c6) := hv6
      subst hv6
      have hM7 := Lib.hid (hMa.out.turn ho hg6 hq6 hf6)
      have hr6h := Lib.hid hr6
      have cO := (hM3.out.way ho).1
      have cO' : (W3.alloc (.cells (dgmA 1 tk 0) 34)).cell? ⟨t8, o, none⟩ = some (v o) := (hMa.out.way ho).1
      obtain ⟨b86, cO6, fO6⟩ := hMa.out.cell6 ho hg6
      have hX6h : Hid ((fun y : World => blk y tx = some (.cells (dgmA 1 tk 0) 34 (0, 0))) hM7w) := hide (blk_of ((hg6.block tx (by show _ < (W3.drew.heap.push _).size; rw [Array.size_push]; have := (Array.getElem?_eq_some_iff.1 hXd.out).1; omega) (fun e => hXne.out o ho e.symm)).trans ((hal.out.block _ (Array.getElem?_eq_some_iff.1 hXd.out).1).trans hXd.out)))
      have hX7h : Hid ((fun y : World => blk y tx = some (.cells (dgmA 1 tk 0) 34 (0, 0))) (hM7w.setCell ⟨t8, o, none⟩ (.slice s6 ((Q o).length + 1) c6))) := hide (blk_of ((heap_setCell_other hM7w ⟨t8, o, none⟩ tx _ (ty_ne2 hXd.out hMd.out.b8 (by decide))).trans (blk_heap hX6h.out)))
      have hX8h := Lib.hid (hXs.out _ hal.out)
      have hX9h := Lib.hid (hXs.out _ (Below.refl _ _))
      clear hr6 hq6 hg6 hf6 b86
      refine h_push (i := 5) (j := 7) (k := 8) (w6 := hM7w) (v o) (.slice s6 ((Q o).length + 1) c6) (.slice (some ⟨W3.drew.heap.size, 0, none⟩) 1 1) (.cells (dgmA 1 tk 0) 34) rfl rfl rfl (by kernel_rfl) (by kernel_rfl) (by kernel_rfl) (by kernel_rfl) (fun _ => rfl) (fun _ => rfl) (fun _ => rfl) ?_ ?_ ?_ ?_ ?_ rfl rfl hX9h.out hX8h.out hX6h.out ?_
      · go_simp <;> with_reducible rfl
      · go_simp <;> with_reducible rfl
      · unfold dgmA
        go_simp <;> rfl
      · unfold dgmA
        go_simp <;> rfl
      · exact exec_appendP (.tmp 58) (.tmp 60) _ _ rfl rfl rfl hr6h.out
      simp only [Act.put, List.setIfInBounds_toArray, List.set_cons_zero, List.set_cons_succ]
      clear cO cO'
      have hHeld := hX6h.out
      first
        | (refine h_run (i := 9) (v := ?_) hHeld rfl (by kernel_rfl) (by kernel_rfl) (by kernel_rfl) ?_ ?_ ?_
           rotate_left
           · rfl
           · (intro x hSx; (try dsimp only at hSx); go_simp <;> with_reducible rfl)
           simp only [Act.put, List.setIfInBounds_toArray, List.set_cons_zero, List.set_cons_succ])
        | (refine h_skip (i := 9) hHeld rfl (by kernel_rfl) (by kernel_rfl) (by kernel_rfl) ?_ ?_
           · rfl
           simp only [Act.put, List.setIfInBounds_toArray, List.set_cons_zero, List.set_cons_succ])
      clear hHeld
      refine h_write (i := 10) (w' := hM7w.setCell ⟨t8, o, none⟩ (.slice s6 ((Q o).length + 1) c6)) (fun y : World => blk y tx = some (.cells (dgmA 1 tk 0) 34 (0, 0))) (fun _ h => h) rfl (by kernel_rfl) rfl ?_ hX7h.out ?_
      · go_simp <;> with_reducible rfl
      refine h_done (by kernel_rfl) ?_
      clear cO6 fO6 hMd hXd hXs hal hMa hr6h hX6h hX7h hX8h hX9h
      have hlq2 := len_push Q ho (tk, 0)
      go_wp2_with fail
      go_roundw
      case rel => exact ⟨k + 1, _, _, _, by omega, by go_num, hM7, hEn, by omega⟩
      case measure => simp [intOf]; omega
    · obtain rfl : k = 2 := by omega
      have hQ2 := hQ
      have hG : Hid (GdOk e 1) := hide (by
        have := hE.out
        unfold StOk at this
        exact fun j hj => ⟨((this j hj).1 hj).1, .inl ((this j hj).1 hj).2⟩)
      have hM1 := hM
      clear hM hE hk2 hQ
      go_upto_region 15 with (fail)
      go_loopw [12] (fun v12 wr => ∃ (i : Nat) (e : Nat → ShS) (v : Nat → Value) (Q : Nat → List Msg), i ≤ 60 ∧ v12 = .int .i64 (i : Nat) ∧ Hid (MtAt w wr t7 t8 p e v Q) ∧ Hid (GdOk e (i + 1)) ∧ (Q 0).length + (Q 1).length ≤ 2 + i) (fun v12 _ => 60 - (intOf v12).toNat)
      case atStart => exact ⟨0, e, v, Q, by omega, rfl, hM1, hG, by omega⟩
      case round =>
        obtain ⟨i, e, v, Q, hi60, rfl, hM, hG, hQ⟩ := hrel
        clear hM1
        by_cases hrun : i < len2 ∧ i < 60
        · obtain ⟨hil, hi6⟩ := hrun
          have i1 : (i : Int) < (len2 : Int) := by omega
          have i2 : (i : Int) < 60 := by omega
          obtain ⟨op, b, off, rfl, hop⟩ := hops.out i hil
          have hop12 : w.cell? ⟨b, off + i * 13 + 12, none⟩ = some (.int .i64 op.n) := hop 12 _ (by unfold opA; rfl)
          have hop0 : w.cell? ⟨b, off + i * 13 + 0, none⟩ = some (.int .i64 op.kind) := hop 0 _ (by unfold opA; rfl)
          rw [Nat.add_zero] at hop0
          have hN := (hM.out.lo.cell (cell_block_lt hop12)).trans hop12
          have hopK := Lib.hid (fun (y : World) (hy : Below w.heap.size w y) => (hy.cell (cell_block_lt hop0)).trans hop0)
          obtain ⟨kd, hkd⟩ : ∃ k, op.kind = k := ⟨_, rfl⟩
          obtain ⟨nn, hnn⟩ : ∃ k, op.n = k := ⟨_, rfl⟩
          rw [hkd] at hopK
          rw [hnn] at hN
          clear hop hop12 hop0 hkd hnn
          go_upto_region 18 with (fail)
          go_upto_if 80 with (fail)
          go_cut [13] (fun v13 wx => ∃ who : Nat, who < 2 ∧ v13 = .int .i64 (who : Nat) ∧ wr = wx)
          case first =>
            have h1 : -2 < nn.tmod 2 ∧ nn.tmod 2 < 2 := by
              have h1 := Int.tmod_lt_of_pos nn (show (0 : Int) < 2 by decide)
              have h2 := Int.lt_tmod_of_pos nn (show (0 : Int) < 2 by decide)
              omega
            generalize nn.tmod 2 = r at *
            by_cases hr : r < 0
            · have d0 : decide (r < 0) = true := decide_eq_true hr
              go_wp2_with fail
              go_meet
              exact ⟨1, by omega, rfl, rfl⟩
            · have d0 : decide (r < 0) = false := decide_eq_false hr
              go_wp2_with fail
              go_meet
              exact ⟨r.toNat, by omega, by congr 1; omega, rfl⟩
          case rest =>
            obtain ⟨who, hw, rfl, rfl⟩ := hcut
            clear hN
            have j1 : (who : Int) < 2 := by omega
            obtain ⟨o, hko⟩ : ∃ o, who + o = 1 := ⟨1 - who, by omega⟩
            have ho : o < 2 := by omega
            have i3 : IntKind.i64.wrap ((1 : Int) - (who : Int)) = (o : Int) := by rw [show (1 : Int) - (who : Int) = (o : Int) by omega]; exact IntWalk.i64_in _ (by omega)
            have i4 : (o : Int) < 2 := by omega
            obtain ⟨sw, cw, hvw⟩ := (hM.out.qu who hw).form
            have cW := (hM.out.way hw).1
            rw [hvw] at cW
            have hvwh := Lib.hid hvw
            obtain ⟨n, hn⟩ : ∃ n, (Q who).length = n := ⟨_, rfl⟩
            rw [hn] at cW
            have hnh := Lib.hid hn
            have cK := hopK.out wr hM.out.lo
            clear hvw hn
            go_upto_region 20 with (fail)
            go_cut [93] (fun v93 wx => v93 = .bool (decide (n = 0 ∨ kd = 1)) ∧ wr = wx)
            case first =>
              by_cases hn0 : n = 0
              · subst hn0
                go_wp2_with fail
                go_meet
                exact ⟨by simp, rfl⟩
              · have e0 : ((n : Int) == 0) = false := by simp; omega
                have e0' : (n == 0) = false := by simp; omega
                go_wp2_with fail
                go_meet
                exact ⟨by simp [hn0]; rfl, rfl⟩
            case rest =>
              obtain ⟨rfl, rfl⟩ := hcut
              clear cK
              have c7 := hM.out.ptr hw
              by_cases hc : n = 0 ∨ kd = 1
              · rw [decide_eq_true hc]
                obtain ⟨hsb, hal⟩ := (by have := hG.out; unfold GdOk at this; exact this who hw : ShB (e who) (i + 1) ∧ shAlive (e who))
                have hst1 := Lib.hid (s_tick (p who) (e who) wr (hM.out.sh who hw) (hsb.ok (by omega)) (by have := hsb.q2; omega))
                have hGn := Lib.hid (hG.out.tick hw)
                have htk1 := Lib.hid (tick_kind (e who))
                rcases hTe : shTick (e who) with ⟨st2, ⟨x1, x2, x3⟩, fl⟩
                rw [hTe] at hst1 hGn htk1
                unfold dV at hst1
                simp only at hst1 hGn htk1
                clear hTe hsb hal
                go_wp2_with fail
                refine hst1.out.mono ?_
                rintro _ w2 ⟨rfl, hs2, hg2⟩
                have hM2 := Lib.hid (hM.out.call hw hs2 hg2)
                have hGm : Hid (GdOk (upd e who st2) (((i + 1 : Nat) : Int) + 1)) := hGn
                clear hst1 hs2 hg2 c7 cW hGn
                go_upto_region 22 with (fail)
                obtain ⟨q1, _, q3, q4⟩ := box_one w2 (dgmA 0 0 0) (dgmA x1 x2 x3) 34
                have hM3 := Lib.hid (hM2.out.below q4)
                have hX3 := Lib.hid (blk_heap q1)
                obtain ⟨tx, htx⟩ : ∃ t, w2.heap.size = t := ⟨_, rfl⟩
                have hXne : Hid (∀ o, o < 2 → (v o).ownBlock ≠ some tx) := hide (fun o ho e => by have := hM2.out.blt ho _ e; omega)
                generalize World.setRow (World.alloc w2 _) _ _ = W3 at *
                rw [htx] at hX3 ⊢
                clear q1 q3 q4 htx hM2 hM
                cases fl with
                | false =>
                  go_wp2_with fail
                  refine ⟨?_, ?measure⟩
                  iterate 100 (apply Exists.intro)
                  refine ⟨?rel, rfl⟩
                  case rel => exact ⟨i + 1, upd e who st2, v, Q, by omega, by go_num, hM3, hGm, by omega⟩
                  case measure => simp [intOf]; omega
                | true =>
                  have hx1 : x1 = 1 := htk1.out rfl
                  subst hx1
                  have hlq : (Q o).length ≤ 100000 := by rcases two_cases ho with rfl | rfl <;> omega
                  go_upto_region 23 with (fail)
                  have hMd := Lib.hid (hM3.out.below (below_drewN (Below.refl _ _) 1))
                  have hXd : Hid (W3.drew.heap[tx]? = some (.cells (dgmA 1 x2 x3) 34 (0, 0))) := hide hX3.out
                  have hXs : Hid (∀ y, Below W3.drew.heap.size W3.drew y → (fun y : World => blk y tx = some (.cells (dgmA 1 x2 x3) 34 (0, 0))) y) := hide (fun y hy => blk_of ((hy.block _ (Array.getElem?_eq_some_iff.1 hXd.out).1).trans hXd.out))
                  have hHeld := hXs.out _ (Below.refl _ _)
                  refine h_begin 11 (fun y : World => blk y tx = some (.cells (dgmA 1 x2 x3) 34 (0, 0))) rfl (by kernel_rfl) hHeld ?_
                  first
                    | (refine h_run (i := 0) (v := ?_) hHeld rfl (by kernel_rfl) (by kernel_rfl) (by kernel_rfl) ?_ ?_ ?_
                       rotate_left
                       · rfl
                       · (intro x hSx; (try dsimp only at hSx); go_simp <;> with_reducible rfl)
                       simp only [Act.put, List.setIfInBounds_toArray, List.set_cons_zero, List.set_cons_succ])
                    | (refine h_skip (i := 0) hHeld rfl (by kernel_rfl) (by kernel_rfl) (by kernel_rfl) ?_ ?_
                       · rfl
                       simp only [Act.put, List.setIfInBounds_toArray, List.set_cons_zero, List.set_cons_succ])
                  first
                    | (refine h_run (i := 1) (v := ?_) hHeld rfl (by kernel_rfl) (by kernel_rfl) (by kernel_rfl) ?_ ?_ ?_
                       rotate_left
                       · rfl
                       · (intro x hSx; (try dsimp only at hSx); go_simp <;> with_reducible rfl)
                       simp only [Act.put, List.setIfInBounds_toArray, List.set_cons_zero, List.set_cons_succ])
                    | (refine h_skip (i := 1) hHeld rfl (by kernel_rfl) (by kernel_rfl) (by kernel_rfl) ?_ ?_
                       · rfl
                       simp only [Act.put, List.setIfInBounds_toArray, List.set_cons_zero, List.set_cons_succ])
                  first
                    | (refine h_run (i := 2) (v := ?_) hHeld rfl (by kernel_rfl) (by kernel_rfl) (by kernel_rfl) ?_ ?_ ?_
                       rotate_left
                       · rfl
                       · (intro x hSx; (try dsimp only at hSx); go_simp <;> with_reducible rfl)
                       simp only [Act.put, List.setIfInBounds_toArray, List.set_cons_zero, List.set_cons_succ])
                    | (refine h_skip (i := 2) hHeld rfl (by kernel_rfl) (by kernel_rfl) (by kernel_rfl) ?_ ?_
                       · rfl
                       simp only [Act.put, List.setIfInBounds_toArray, List.set_cons_zero, List.set_cons_succ])
                  first
                    | (refine h_run (i := 3) (v := ?_) hHeld rfl (by kernel_rfl) (by kernel_rfl) (by kernel_rfl) ?_ ?_ ?_
                       rotate_left
                       · rfl
                       · (intro x hSx; (try dsimp only at hSx); go_simp <;> with_reducible rfl)
                       simp only [Act.put, List.setIfInBounds_toArray, List.set_cons_zero, List.set_cons_succ])
                    | (refine h_skip (i := 3) hHeld rfl (by kernel_rfl) (by kernel_rfl) (by kernel_rfl) ?_ ?_
                       · rfl
                       simp only [Act.put, List.setIfInBounds_toArray, List.set_cons_zero, List.set_cons_succ])
                  first
                    | (refine h_run (i := 4) (v := ?_) hHeld rfl (by kernel_rfl) (by kernel_rfl) (by kernel_rfl) ?_ ?_ ?_
                       rotate_left
                       · rfl
                       · (intro x hSx; (try dsimp only at hSx); go_simp <;> with_reducible rfl)
                       simp only [Act.put, List.setIfInBounds_toArray, List.set_cons_zero, List.set_cons_succ])
                    | (refine h_skip (i := 4) hHeld rfl (by kernel_rfl) (by kernel_rfl) (by kernel_rfl) ?_ ?_
                       · rfl
                       simp only [Act.put, List.setIfInBounds_toArray, List.set_cons_zero, List.set_cons_succ])
                  first
                    | (refine h_run (i := 6) (v := ?_) hHeld rfl (by kernel_rfl) (by kernel_rfl) (by kernel_rfl) ?_ ?_ ?_
                       rotate_left
                       · rfl
                       · (intro x hSx; (try dsimp only at hSx); go_simp <;> with_reducible rfl)
                       simp only [Act.put, List.setIfInBounds_toArray, List.set_cons_zero, List.set_cons_succ])
                    | (refine h_skip (i := 6) hHeld rfl (by kernel_rfl) (by kernel_rfl) (by kernel_rfl) ?_ ?_
                       · rfl
                       simp only [Act.put, List.setIfInBounds_toArray, List.set_cons_zero, List.set_cons_succ])
                  clear hHeld
                  have hal : Hid (Below W3.drew.heap.size W3.drew (W3.drew.alloc (.cells (dgmA 1 x2 x3) 34))) := hide ((Below.refl _ _).alloc (Nat.le_refl _) _)
                  have hMa := Lib.hid (hMd.out.below hal.out)
                  obtain ⟨v6, hM7w, hr6, hq6, hg6, hf6⟩ := q_push (hMa.out.qu o ho) hMa.out.lo.size hlq W3.drew.heap.size (x2, x3) (last_block0 W3.drew (.cells (dgmA 1 x2 x3) 34) _ rfl) 30
                  obtain ⟨s6, c6, hv6⟩ := hq6.form
                  rw [List.length_append] at hv6
                  replace hv6 : v6 = (.slice s6 ((Q o).length + 1) c6) := hv6
                  subst hv6
                  have hM7 := Lib.hid (hMa.out.turn ho hg6 hq6 hf6)
                  have hr6h := Lib.hid hr6
                  have cO := (hM3.out.way ho).1
                  have cO' : (W3.alloc (.cells (dgmA 1 x2 x3) 34)).cell? ⟨t8, o, none⟩ = some (v o) := (hMa.out.way ho).1
                  obtain ⟨b86, cO6, fO6⟩ := hMa.out.cell6 ho hg6
                  have hX6h : Hid ((fun y : World => blk y tx = some (.cells (dgmA 1 x2 x3) 34 (0, 0))) hM7w) := hide (blk_of ((hg6.block tx (by show _ < (W3.drew.heap.push _).size; rw [Array.size_push]; have := (Array.getElem?_eq_some_iff.1 hXd.out).1; omega) (fun e => hXne.out o ho e.symm)).trans ((hal.out.block _ (Array.getElem?_eq_some_iff.1 hXd.out).1).trans hXd.out)))
                  have hX7h : Hid ((fun y : World => blk y tx = some (.cells (dgmA 1 x2 x3) 34 (0, 0))) (hM7w.setCell ⟨t8, o, none⟩ (.slice s6 ((Q o).length + 1) c6))) := hide (blk_of ((heap_setCell_other hM7w ⟨t8, o, none⟩ tx _ (ty_ne2 hXd.out hMd.out.b8 (by decide))).trans (blk_heap hX6h.out)))
                  have hX8h := Lib.hid (hXs.out _ hal.out)
                  have hX9h := Lib.hid (hXs.out _ (Below.refl _ _))
                  clear hr6 hq6 hg6 hf6 b86
                  refine h_push (i := 5) (j := 7) (k := 8) (w6 := hM7w) (v o) (.slice s6 ((Q o).length + 1) c6) (.slice (some ⟨W3.drew.heap.size, 0, none⟩) 1 1) (.cells (dgmA 1 x2 x3) 34) rfl rfl rfl (by kernel_rfl) (by kernel_rfl) (by kernel_rfl) (by kernel_rfl) (fun _ => rfl) (fun _ => rfl) (fun _ => rfl) ?_ ?_ ?_ ?_ ?_ rfl rfl hX9h.out hX8h.out hX6h.out ?_
                  · go_simp <;> with_reducible rfl
                  · go_simp <;> with_reducible rfl
                  · unfold dgmA
                    go_simp <;> rfl
                  · unfold dgmA
                    go_simp <;> rfl
                  · exact exec_appendP (.tmp 107) (.tmp 109) _ _ rfl rfl rfl hr6h.out
                  simp only [Act.put, List.setIfInBounds_toArray, List.set_cons_zero, List.set_cons_succ]
                  clear cO cO'
                  have hHeld := hX6h.out
                  first
                    | (refine h_run (i := 9) (v := ?_) hHeld rfl (by kernel_rfl) (by kernel_rfl) (by kernel_rfl) ?_ ?_ ?_
                       rotate_left
                       · rfl
                       · (intro x hSx; (try dsimp only at hSx); go_simp <;> with_reducible rfl)
                       simp only [Act.put, List.setIfInBounds_toArray, List.set_cons_zero, List.set_cons_succ])
                    | (refine h_skip (i := 9) hHeld rfl (by kernel_rfl) (by kernel_rfl) (by kernel_rfl) ?_ ?_
                       · rfl
                       simp only [Act.put, List.setIfInBounds_toArray, List.set_cons_zero, List.set_cons_succ])
                  clear hHeld
                  refine h_write (i := 10) (w' := hM7w.setCell ⟨t8, o, none⟩ (.slice s6 ((Q o).length + 1) c6)) (fun y : World => blk y tx = some (.cells (dgmA 1 x2 x3) 34 (0, 0))) (fun _ h => h) rfl (by kernel_rfl) rfl ?_ hX7h.out ?_
                  · go_simp <;> with_reducible rfl
                  refine h_done (by kernel_rfl) ?_
                  clear cO6 fO6 hMd hXd hXs hal hMa hr6h hX6h hX7h hX8h hX9h
                  have hlq2 := len_push Q ho (x2, x3)
                  go_wp2_with fail
                  refine ⟨?_, ?measure⟩
                  iterate 100 (apply Exists.intro)
                  refine ⟨?rel, rfl⟩
                  case rel => exact ⟨i + 1, upd e who st2, _, _, by omega, by go_num, hM7, hGm, by omega⟩
                  case measure => simp [intOf]; omega
              · rw [decide_eq_false hc]
                have hn1 : n ≠ 0 := fun h => hc (.inl h)
                have hk1 : kd ≠ 1 := fun h => hc (.inr h)
                obtain ⟨ma, mb, l, hQw⟩ : ∃ ma mb l, Q who = (ma, mb) :: l := by
                  have := hnh.out
                  rcases h : Q who with _ | ⟨⟨ma, mb⟩, l⟩
                  · rw [h] at this; exact absurd this.symm hn1
                  · exact ⟨ma, mb, l, rfl⟩
                have hq := hM.out.qu who hw
                rw [hQw] at hq
                obtain ⟨qb, qo, qc, hvq, hlc, hqlt, hqlo, ⟨C, hC, hCx⟩, hpop1, hpop0⟩ := hq.head
                have cQ : wr.cell? ⟨t8, who, none⟩ = some (.slice (some ⟨qb, qo, none⟩) (l.length + 1) (qc + 1)) := by rw [(hM.out.way hw).1, hvq]
                have hvqh := Lib.hid hvq
                have hQwh := Lib.hid hQw
                have hp1h := Lib.hid hpop1
                have hp0h := Lib.hid hpop0
                have hnl : Hid (n = l.length + 1) := hide (by have := hnh.out; rw [hQw] at this; exact this.symm)
                have hm : (wLoad 34 (.pointer (some ⟨qb, qo, none⟩))).run Try.prog wr = .ok (.agg (dgmA 1 ma mb)) wr := by
                  have h2 := run_loadAt_mid (P := Try.prog) wr qb qo 34 (dgmA 1 ma mb).toList _ (fun j v hv => by rw [cell_of_block hC]; exact hCx j v (by rw [← hv, Array.getElem?_toList])) Try.underlying34 rfl (by rw [Array.length_toList, dg_size]; exact dgm_info11)
                  rw [ld_dg0] at h2
                  simpa using h2
                have l1 : (0 : Int) < (l.length : Int) + 1 := by omega
                clear cW hvq hQw hq hC hCx hpop1 hpop0 hn1 c7
                go_upto_region 25 with (fail)
                obtain ⟨q1, _, q3, q4⟩ := box_one wr (dgmA 0 0 0) (dgmA 1 ma mb) 34
                have hM3 := Lib.hid (hM.out.below q4)
                have hX3 := Lib.hid (blk_heap q1)
                obtain ⟨tx, htx⟩ : ∃ t, wr.heap.size = t := ⟨_, rfl⟩
                have hXne : Hid (∀ o, o < 2 → (v o).ownBlock ≠ some tx) := hide (fun o ho e => by have := hM.out.blt ho _ e; omega)
                have hqP : Hid (0 < qc → QAt (World.setRow (World.alloc wr (.cells (dgmA 0 0 0) 34)) wr.heap.size (dgmA 1 ma mb)) w.heap.size (.slice (some ⟨qb, qo + 11, none⟩) l.length qc) l) := hide (fun h => (hp1h.out h).kept (fun b hb => by injection hb with hb; subst hb; exact q4.block _ hqlt))
                have hqP0 : Hid (qc = 0 → l = [] ∧ QAt (World.setRow (World.alloc wr (.cells (dgmA 0 0 0) 34)) wr.heap.size (dgmA 1 ma mb)) w.heap.size (.slice (some ⟨qb, qo, none⟩) 0 0) []) := hide (fun h => ⟨(hp0h.out h).1, (hp0h.out h).2.kept (fun b hb => by injection hb with hb; subst hb; exact q4.block _ hqlt)⟩)
                generalize World.setRow (World.alloc wr _) _ _ = W3 at *
                rw [htx] at hX3 ⊢
                clear q1 q3 q4 htx hM hm cQ hp1h hp0h
                have cK := hopK.out W3 hM3.out.lo
                go_upto_if 122 with (fail)
                go_cut [] (fun wx => ∃ (v' : Nat → Value) (Q' : Nat → List Msg), Hid (MtAt w wx t7 t8 p e v' Q') ∧ (Q' 0).length + (Q' 1).length ≤ 2 + i ∧ Hid (wx.heap[tx]? = some (.cells (dgmA 1 ma mb) 34 (0, 0))) ∧ Hid (∀ o, o < 2 → (v' o).ownBlock ≠ some tx))
                case first =>
                  by_cases hk5 : kd = 5
                  · subst hk5
                    go_wp2_with fail
                    go_meet
                    exact ⟨v, Q, hM3, hQ, hX3, hXne⟩
                  · have e0 : (kd != 5) = true := by simp; exact hk5
                    have cQ : W3.cell? ⟨t8, who, none⟩ = some (.slice (some ⟨qb, qo, none⟩) (l.length + 1) (qc + 1)) := by rw [(hM3.out.way hw).1, hvqh.out]
                    have fQ := (hM3.out.way hw).2
                    have hvb : (v who).ownBlock = some qb := by rw [hvqh.out]; rfl
                    have htx8 : tx ≠ t8 := ty_ne2 hX3.out hM3.out.b8 (by decide)
                    have hlp := len_pop Q hw hQwh.out
                    rcases Nat.eq_zero_or_pos qc with hq0 | hq0
                    · obtain ⟨hl0, hqa⟩ := hqP0.out hq0
                      have hT := Lib.hid (hM3.out.turn hw (only_refl W3 _) hqa (fun b hb => .inl (by rw [hvb]; exact hb)))
                      have hX5 : Hid ((W3.setCell ⟨t8, who, none⟩ (.slice (some ⟨qb, qo, none⟩) 0 0)).heap[tx]? = some (.cells (dgmA 1 ma mb) 34 (0, 0))) := hide ((heap_setCell_other W3 ⟨t8, who, none⟩ tx _ htx8).trans hX3.out)
                      have hXn5 : Hid (∀ o, o < 2 → (upd v who (.slice (some ⟨qb, qo, none⟩) 0 0) o).ownBlock ≠ some tx) := hide (upd_block (fun o ho => hXne.out o ho) (by have := hXne.out who hw; rw [hvb] at this; exact this))
                      subst hl0 hq0
                      have cQ2 : W3.cell? ⟨t8, who, none⟩ = some (.slice (some ⟨qb, qo, none⟩) 1 1) := cQ
                      clear cQ hqa hqP hqP0
                      go_wp2_with fail
                      go_meet
                      exact ⟨_, _, hT, by omega, hX5, hXn5⟩
                    · have hqa := hqP.out hq0
                      have hT := Lib.hid (hM3.out.turn hw (only_refl W3 _) hqa (fun b hb => .inl (by rw [hvb]; exact hb)))
                      have hX5 : Hid ((W3.setCell ⟨t8, who, none⟩ (.slice (some ⟨qb, qo + 11, none⟩) l.length qc)).heap[tx]? = some (.cells (dgmA 1 ma mb) 34 (0, 0))) := hide ((heap_setCell_other W3 ⟨t8, who, none⟩ tx _ htx8).trans hX3.out)
                      have hXn5 : Hid (∀ o, o < 2 → (upd v who (.slice (some ⟨qb, qo + 11, none⟩) l.length qc) o).ownBlock ≠ some tx) := hide (upd_block (fun o ho => hXne.out o ho) (by have := hXne.out who hw; rw [hvb] at this; exact this))
                      have hqn : ¬ qc + 1 = 1 := by omega
                      have hqn2 : qc ≠ 0 := by omega
                      clear hqa hqP hqP0
                      go_wp2_with fail
                      go_meet
                      exact ⟨_, _, hT, by omega, hX5, hXn5⟩
                case rest =>
                  obtain ⟨v', Q', hM4, hQ4, hX4, hXn4⟩ := hcut
                  have cK := hopK.out wc hM4.out.lo
                  by_cases hk0 : kd = 0
                  · subst hk0
                    have hGm : Hid (GdOk e (((i + 1 : Nat) : Int) + 1)) := hide (hG.out.mono (by omega))
                    go_wp2_with fail
                    refine ⟨?rel, ?measure⟩
                    case rel => exact ⟨i + 1, e, v', Q', by omega, by go_num, hM4, hGm, by omega⟩
                    case measure => simp [intOf]; omega
                  · have e0 : (kd != 0) = true := by simp; exact hk0
                    obtain ⟨hsb, hal⟩ := (by have := hG.out; unfold GdOk at this; exact this who hw : ShB (e who) (i + 1) ∧ shAlive (e who))
                    have hst1 := Lib.hid (s_take_m (p who) (e who) ma mb (hsb.ok (by omega)))
                    have hGn := Lib.hid (hG.out.take hw 1 ma mb)
                    have htk1 := Lib.hid (take_kind (e who) ma mb)
                    rcases hTe : shTake (e who) 1 ma mb with ⟨st2, ⟨x1, x2, x3⟩, fl, er⟩
                    rw [hTe] at hst1 hGn htk1
                    unfold dV at hst1
                    simp only at hst1 hGn htk1
                    clear hTe hsb  hal
                    go_upto_region 28 with (fail)
                    go_cut [17, 18] (fun v17 v18 wx => ∃ tz : Nat, v17 = .pointer (some ⟨tz, 0, none⟩) ∧ v18 = .bool fl ∧ Hid (MtAt w wx t7 t8 p (upd e who st2) v' Q') ∧ Hid (wx.heap[tz]? = some (.cells (dgmA x1 x2 x3) 34 (0, 0))) ∧ Hid (∀ o, o < 2 → (v' o).ownBlock ≠ some tz))
                    case first =>
                      have hS : Hid (∀ y e2, MtAt w y t7 t8 p e2 v' Q' → y.heap[tx]? = some (.cells (dgmA 1 ma mb) 34 (0, 0)) → (fun y : World => y.cell? ⟨t7, who, none⟩ = some (.pointer (some ⟨p who, 0, none⟩)) ∧ blk y tx = some (.cells (dgmA 1 ma mb) 34 (0, 0))) y) := hide (fun y e2 h1 h2 => ⟨h1.ptr hw, blk_of h2⟩)
                      have hMd := Lib.hid (hM4.out.below (below_drewN (Below.refl _ _) 1))
                      have hXd : Hid (wc.drew.heap[tx]? = some (.cells (dgmA 1 ma mb) 34 (0, 0))) := hide hX4.out
                      have hxlt := (Array.getElem?_eq_some_iff.1 hXd.out).1
                      have hHeld := hS.out _ _ hMd.out hXd.out
                      refine h_begin 13 (fun y : World => y.cell? ⟨t7, who, none⟩ = some (.pointer (some ⟨p who, 0, none⟩)) ∧ blk y tx = some (.cells (dgmA 1 ma mb) 34 (0, 0))) rfl (by kernel_rfl) hHeld ?_
                      first
                        | (refine h_run (i := 0) (v := ?_) hHeld rfl (by kernel_rfl) (by kernel_rfl) (by kernel_rfl) ?_ ?_ ?_
                           rotate_left
                           · rfl
                           · (intro x hSx; (try dsimp only at hSx); go_simp <;> with_reducible rfl)
                           simp only [Act.put, List.setIfInBounds_toArray, List.set_cons_zero, List.set_cons_succ])
                        | (refine h_skip (i := 0) hHeld rfl (by kernel_rfl) (by kernel_rfl) (by kernel_rfl) ?_ ?_
                           · rfl
                           simp only [Act.put, List.setIfInBounds_toArray, List.set_cons_zero, List.set_cons_succ])
                      first
                        | (refine h_run (i := 1) (v := ?_) hHeld rfl (by kernel_rfl) (by kernel_rfl) (by kernel_rfl) ?_ ?_ ?_
                           rotate_left
                           · rfl
                           · (intro x hSx; (try dsimp only at hSx); go_simp <;> with_reducible rfl)
                           simp only [Act.put, List.setIfInBounds_toArray, List.set_cons_zero, List.set_cons_succ])
                        | (refine h_skip (i := 1) hHeld rfl (by kernel_rfl) (by kernel_rfl) (by kernel_rfl) ?_ ?_
                           · rfl
                           simp only [Act.put, List.setIfInBounds_toArray, List.set_cons_zero, List.set_cons_succ])
                      first
                        | (refine h_run (i := 2) (v := ?_) hHeld rfl (by kernel_rfl) (by kernel_rfl) (by kernel_rfl) ?_ ?_ ?_
                           rotate_left
                           · rfl
                           · (intro x hSx; (try dsimp only at hSx); go_simp <;> with_reducible rfl)
                           simp only [Act.put, List.setIfInBounds_toArray, List.set_cons_zero, List.set_cons_succ])
                        | (refine h_skip (i := 2) hHeld rfl (by kernel_rfl) (by kernel_rfl) (by kernel_rfl) ?_ ?_
                           · rfl
                           simp only [Act.put, List.setIfInBounds_toArray, List.set_cons_zero, List.set_cons_succ])
                      first
                        | (refine h_run (i := 3) (v := ?_) hHeld rfl (by kernel_rfl) (by kernel_rfl) (by kernel_rfl) ?_ ?_ ?_
                           rotate_left
                           · rfl
                           · (intro x hSx; (try dsimp only at hSx); go_simp <;> with_reducible rfl)
                           simp only [Act.put, List.setIfInBounds_toArray, List.set_cons_zero, List.set_cons_succ])
                        | (refine h_skip (i := 3) hHeld rfl (by kernel_rfl) (by kernel_rfl) (by kernel_rfl) ?_ ?_
                           · rfl
                           simp only [Act.put, List.setIfInBounds_toArray, List.set_cons_zero, List.set_cons_succ])
                      clear hHeld
                      have hal : Hid (Below wc.drew.heap.size wc.drew (wc.drew.alloc (.cells (dgmA 0 0 0) 34))) := hide ((Below.refl _ _).alloc (Nat.le_refl _) _)
                      have hMa := Lib.hid (hMd.out.below hal.out)
                      have hXa := Lib.hid ((hal.out.block _ hxlt).trans hXd.out)
                      have hZa := Lib.hid (last_block0 wc.drew (.cells (dgmA 0 0 0) 34) _ rfl)
                      have hxp : tx ≠ p who := ty_ne2 hXd.out (hMd.out.sh who hw) (by decide)
                      refine h_pairA (i := 9) (j := 4) (v := .pointer (some ⟨wc.drew.heap.size, 0, none⟩)) (w1 := wc.drew.alloc (.cells (dgmA 0 0 0) 34)) (hst1.out wc.drew (hMd.out.sh who hw)) rfl rfl (by kernel_rfl) rfl rfl ?_ ?_ (hS.out _ _ hMa.out hXa.out) ?_ ?_
                      · go_simp <;> with_reducible rfl
                      · go_simp <;> with_reducible rfl
                      · simp only [Act.put, List.setIfInBounds_toArray, List.set_cons_zero, List.set_cons_succ]
                        refine h_call (i := 4) (fun y : World => y.cell? ⟨t7, who, none⟩ = some (.pointer (some ⟨p who, 0, none⟩)) ∧ blk y tx = some (.cells (dgmA 1 ma mb) 34 (0, 0))) (fun _ h => h) (hst1.out (wc.drew.alloc (.cells (dgmA 0 0 0) 34)) (hMa.out.sh who hw)) rfl (by kernel_rfl) rfl ?_ ?_
                        · go_simp <;> with_reducible rfl
                        rintro _ y ⟨rfl, hs2, hg2⟩
                        have hMy := Lib.hid (hMa.out.call hw hs2 hg2)
                        have hXy := Lib.hid ((hg2.block tx (Array.getElem?_eq_some_iff.1 hXa.out).1 (fun e => hxp (by injection e))).trans hXa.out)
                        have hZy := Lib.hid ((hg2.block wc.drew.heap.size (Array.getElem?_eq_some_iff.1 hZa.out).1 (fun e => ty_ne2 hZa.out (hMa.out.sh who hw) (by decide) (by injection e))).trans hZa.out)
                        have hXn9 : Hid (∀ o, o < 2 → (v' o).ownBlock ≠ some wc.drew.heap.size) := hide (fun o ho e => absurd (hMd.out.blt ho _ e) (Nat.lt_irrefl _))
                        have hlo9 : w.heap.size ≤ wc.drew.heap.size := hMd.out.lo.size
                        have htx9 : tx ≠ wc.drew.heap.size := by omega
                        have hHeld := hS.out _ _ hMy.out hXy.out
                        refine ⟨_, rfl, hHeld, ?_⟩
                        clear hs2 hg2
                        first
                          | (refine h_run (i := 5) (v := ?_) hHeld rfl (by kernel_rfl) (by kernel_rfl) (by kernel_rfl) ?_ ?_ ?_
                             rotate_left
                             · rfl
                             · (intro x hSx; (try dsimp only at hSx); go_simp <;> with_reducible rfl)
                             simp only [Act.put, List.setIfInBounds_toArray, List.set_cons_zero, List.set_cons_succ])
                          | (refine h_skip (i := 5) hHeld rfl (by kernel_rfl) (by kernel_rfl) (by kernel_rfl) ?_ ?_
                             · rfl
                             simp only [Act.put, List.setIfInBounds_toArray, List.set_cons_zero, List.set_cons_succ])
                        first
                          | (refine h_run (i := 6) (v := ?_) hHeld rfl (by kernel_rfl) (by kernel_rfl) (by kernel_rfl) ?_ ?_ ?_
                             rotate_left
                             · rfl
                             · (intro x hSx; (try dsimp only at hSx); go_simp <;> with_reducible rfl)
                             simp only [Act.put, List.setIfInBounds_toArray, List.set_cons_zero, List.set_cons_succ])
                          | (refine h_skip (i := 6) hHeld rfl (by kernel_rfl) (by kernel_rfl) (by kernel_rfl) ?_ ?_
                             · rfl
                             simp only [Act.put, List.setIfInBounds_toArray, List.set_cons_zero, List.set_cons_succ])
                        first
                          | (refine h_run (i := 7) (v := ?_) hHeld rfl (by kernel_rfl) (by kernel_rfl) (by kernel_rfl) ?_ ?_ ?_
                             rotate_left
                             · rfl
                             · (intro x hSx; (try dsimp only at hSx); go_simp <;> with_reducible rfl)
                             simp only [Act.put, List.setIfInBounds_toArray, List.set_cons_zero, List.set_cons_succ])
                          | (refine h_skip (i := 7) hHeld rfl (by kernel_rfl) (by kernel_rfl) (by kernel_rfl) ?_ ?_
                             · rfl
                             simp only [Act.put, List.setIfInBounds_toArray, List.set_cons_zero, List.set_cons_succ])
                        first
                          | (refine h_run (i := 8) (v := ?_) hHeld rfl (by kernel_rfl) (by kernel_rfl) (by kernel_rfl) ?_ ?_ ?_
                             rotate_left
                             · rfl
                             · (intro x hSx; (try dsimp only at hSx); go_simp <;> with_reducible rfl)
                             simp only [Act.put, List.setIfInBounds_toArray, List.set_cons_zero, List.set_cons_succ])
                          | (refine h_skip (i := 8) hHeld rfl (by kernel_rfl) (by kernel_rfl) (by kernel_rfl) ?_ ?_
                             · rfl
                             simp only [Act.put, List.setIfInBounds_toArray, List.set_cons_zero, List.set_cons_succ])
                        clear hHeld
                        generalize wc.drew.heap.size = tz at *
                        have hT9 := Lib.hid (hMy.out.row (C := dgmA x1 x2 x3) hZy.out (fun o ho => hXn9.out o ho) hlo9)
                        have hX9 := Lib.hid (setRow_heap y tz _ (dgmA x1 x2 x3) 34 (0, 0) hZy.out)
                        have bz := blk_of hZy.out
                        refine h_write (i := 10) (w' := y.setRow tz (dgmA x1 x2 x3)) (fun y : World => y.cell? ⟨t7, who, none⟩ = some (.pointer (some ⟨p who, 0, none⟩)) ∧ blk y tx = some (.cells (dgmA 1 ma mb) 34 (0, 0))) (fun _ h => h) rfl (by kernel_rfl) rfl ?_ (hS.out _ _ hT9.out ((setRow_other _ _ _ _ htx9).trans hXy.out)) ?_
                        · go_simp <;> with_reducible rfl
                        have hHeld := hS.out _ _ hT9.out ((setRow_other _ _ _ _ htx9).trans hXy.out)
                        first
                          | (refine h_run (i := 11) (v := ?_) hHeld rfl (by kernel_rfl) (by kernel_rfl) (by kernel_rfl) ?_ ?_ ?_
                             rotate_left
                             · rfl
                             · (intro x hSx; (try dsimp only at hSx); go_simp <;> with_reducible rfl)
                             simp only [Act.put, List.setIfInBounds_toArray, List.set_cons_zero, List.set_cons_succ])
                          | (refine h_skip (i := 11) hHeld rfl (by kernel_rfl) (by kernel_rfl) (by kernel_rfl) ?_ ?_
                             · rfl
                             simp only [Act.put, List.setIfInBounds_toArray, List.set_cons_zero, List.set_cons_succ])
                        first
                          | (refine h_run (i := 12) (v := ?_) hHeld rfl (by kernel_rfl) (by kernel_rfl) (by kernel_rfl) ?_ ?_ ?_
                             rotate_left
                             · rfl
                             · (intro x hSx; (try dsimp only at hSx); go_simp <;> with_reducible rfl)
                             simp only [Act.put, List.setIfInBounds_toArray, List.set_cons_zero, List.set_cons_succ])
                          | (refine h_skip (i := 12) hHeld rfl (by kernel_rfl) (by kernel_rfl) (by kernel_rfl) ?_ ?_
                             · rfl
                             simp only [Act.put, List.setIfInBounds_toArray, List.set_cons_zero, List.set_cons_succ])
                        clear hHeld bz
                        refine h_done (by kernel_rfl) ?_
                        go_wp2_with fail
                        go_meet
                        exact ⟨tz, rfl, rfl, hT9, hX9, hXn9⟩
                      · rintro _ y ⟨rfl, hs2, hg2⟩
                        have hMy0 := Lib.hid (hMd.out.call hw hs2 hg2)
                        have hXy0 := Lib.hid ((hg2.block tx hxlt (fun e => hxp (by injection e))).trans hXd.out)
                        have hHeld := hS.out _ _ hMy0.out hXy0.out
                        refine ⟨_, rfl, hHeld, ?_⟩
                        clear hs2 hg2
                        simp only [Act.put, List.setIfInBounds_toArray, List.set_cons_zero, List.set_cons_succ]
                        first
                          | (refine h_run (i := 5) (v := ?_) hHeld rfl (by kernel_rfl) (by kernel_rfl) (by kernel_rfl) ?_ ?_ ?_
                             rotate_left
                             · rfl
                             · (intro x hSx; (try dsimp only at hSx); go_simp <;> with_reducible rfl)
                             simp only [Act.put, List.setIfInBounds_toArray, List.set_cons_zero, List.set_cons_succ])
                          | (refine h_skip (i := 5) hHeld rfl (by kernel_rfl) (by kernel_rfl) (by kernel_rfl) ?_ ?_
                             · rfl
                             simp only [Act.put, List.setIfInBounds_toArray, List.set_cons_zero, List.set_cons_succ])
                        first
                          | (refine h_run (i := 6) (v := ?_) hHeld rfl (by kernel_rfl) (by kernel_rfl) (by kernel_rfl) ?_ ?_ ?_
                             rotate_left
                             · rfl
                             · (intro x hSx; (try dsimp only at hSx); go_simp <;> with_reducible rfl)
                             simp only [Act.put, List.setIfInBounds_toArray, List.set_cons_zero, List.set_cons_succ])
                          | (refine h_skip (i := 6) hHeld rfl (by kernel_rfl) (by kernel_rfl) (by kernel_rfl) ?_ ?_
                             · rfl
                             simp only [Act.put, List.setIfInBounds_toArray, List.set_cons_zero, List.set_cons_succ])
                        first
                          | (refine h_run (i := 7) (v := ?_) hHeld rfl (by kernel_rfl) (by kernel_rfl) (by kernel_rfl) ?_ ?_ ?_
                             rotate_left
                             · rfl
                             · (intro x hSx; (try dsimp only at hSx); go_simp <;> with_reducible rfl)
                             simp only [Act.put, List.setIfInBounds_toArray, List.set_cons_zero, List.set_cons_succ])
                          | (refine h_skip (i := 7) hHeld rfl (by kernel_rfl) (by kernel_rfl) (by kernel_rfl) ?_ ?_
                             · rfl
                             simp only [Act.put, List.setIfInBounds_toArray, List.set_cons_zero, List.set_cons_succ])
                        first
                          | (refine h_run (i := 8) (v := ?_) hHeld rfl (by kernel_rfl) (by kernel_rfl) (by kernel_rfl) ?_ ?_ ?_
                             rotate_left
                             · rfl
                             · (intro x hSx; (try dsimp only at hSx); go_simp <;> with_reducible rfl)
                             simp only [Act.put, List.setIfInBounds_toArray, List.set_cons_zero, List.set_cons_succ])
                          | (refine h_skip (i := 8) hHeld rfl (by kernel_rfl) (by kernel_rfl) (by kernel_rfl) ?_ ?_
                             · rfl
                             simp only [Act.put, List.setIfInBounds_toArray, List.set_cons_zero, List.set_cons_succ])
                        clear hHeld
                        have hal2 : Hid (Below y.heap.size y (y.alloc (.cells (dgmA 0 0 0) 34))) := hide ((Below.refl _ _).alloc (Nat.le_refl _) _)
                        have hMy := Lib.hid (hMy0.out.below hal2.out)
                        have hXy := Lib.hid ((hal2.out.block _ (Array.getElem?_eq_some_iff.1 hXy0.out).1).trans hXy0.out)
                        have hZy := Lib.hid (last_block0 y (.cells (dgmA 0 0 0) 34) _ rfl)
                        have hXn9 : Hid (∀ o, o < 2 → (v' o).ownBlock ≠ some y.heap.size) := hide (fun o ho e => by have := hMy0.out.blt ho _ e; omega)
                        have hlo9 : w.heap.size ≤ y.heap.size := hMy0.out.lo.size
                        have htx9 : tx ≠ y.heap.size := by have := (Array.getElem?_eq_some_iff.1 hXy0.out).1; omega
                        refine h_value (i := 9) (v := .pointer (some ⟨y.heap.size, 0, none⟩)) (w' := y.alloc (.cells (dgmA 0 0 0) 34)) (fun y : World => y.cell? ⟨t7, who, none⟩ = some (.pointer (some ⟨p who, 0, none⟩)) ∧ blk y tx = some (.cells (dgmA 1 ma mb) 34 (0, 0))) (fun _ h => h) rfl (by kernel_rfl) rfl ?_ (hS.out _ _ hMy.out hXy.out) ?_
                        · go_simp <;> with_reducible rfl
                        simp only [Act.put, List.setIfInBounds_toArray, List.set_cons_zero, List.set_cons_succ]
                        clear hal2
                        generalize y.heap.size = tz at *
                        generalize World.alloc y _ = y at *
                        have hT9 := Lib.hid (hMy.out.row (C := dgmA x1 x2 x3) hZy.out (fun o ho => hXn9.out o ho) hlo9)
                        have hX9 := Lib.hid (setRow_heap y tz _ (dgmA x1 x2 x3) 34 (0, 0) hZy.out)
                        have bz := blk_of hZy.out
                        refine h_write (i := 10) (w' := y.setRow tz (dgmA x1 x2 x3)) (fun y : World => y.cell? ⟨t7, who, none⟩ = some (.pointer (some ⟨p who, 0, none⟩)) ∧ blk y tx = some (.cells (dgmA 1 ma mb) 34 (0, 0))) (fun _ h => h) rfl (by kernel_rfl) rfl ?_ (hS.out _ _ hT9.out ((setRow_other _ _ _ _ htx9).trans hXy.out)) ?_
                        · go_simp <;> with_reducible rfl
                        have hHeld := hS.out _ _ hT9.out ((setRow_other _ _ _ _ htx9).trans hXy.out)
                        first
                          | (refine h_run (i := 11) (v := ?_) hHeld rfl (by kernel_rfl) (by kernel_rfl) (by kernel_rfl) ?_ ?_ ?_
                             rotate_left
                             · rfl
                             · (intro x hSx; (try dsimp only at hSx); go_simp <;> with_reducible rfl)
                             simp only [Act.put, List.setIfInBounds_toArray, List.set_cons_zero, List.set_cons_succ])
                          | (refine h_skip (i := 11) hHeld rfl (by kernel_rfl) (by kernel_rfl) (by kernel_rfl) ?_ ?_
                             · rfl
                             simp only [Act.put, List.setIfInBounds_toArray, List.set_cons_zero, List.set_cons_succ])
                        first
                          | (refine h_run (i := 12) (v := ?_) hHeld rfl (by kernel_rfl) (by kernel_rfl) (by kernel_rfl) ?_ ?_ ?_
                             rotate_left
                             · rfl
                             · (intro x hSx; (try dsimp only at hSx); go_simp <;> with_reducible rfl)
                             simp only [Act.put, List.setIfInBounds_toArray, List.set_cons_zero, List.set_cons_succ])
                          | (refine h_skip (i := 12) hHeld rfl (by kernel_rfl) (by kernel_rfl) (by kernel_rfl) ?_ ?_
                             · rfl
                             simp only [Act.put, List.setIfInBounds_toArray, List.set_cons_zero, List.set_cons_succ])
                        clear hHeld bz
                        refine h_done (by kernel_rfl) ?_
                        go_wp2_with fail
                        go_meet
                        exact ⟨tz, rfl, rfl, hT9, hX9, hXn9⟩
                    case rest =>
                      obtain ⟨tz, rfl, rfl, hM9, hX9, hXne⟩ := hcut
                      have hGm : Hid (GdOk (upd e who st2) (((i + 1 : Nat) : Int) + 1)) := hGn
                      clear hM4 hX4 hXn4 hst1 hG hGn hX3 hqP hqP0 hM3
                      cases fl with
                      | false =>
                        go_wp2_with fail
                        refine ⟨?_, ?_⟩
                        rotate_left
                        · simp [intOf]; omega
                        first
                          | exact ⟨i + 1, upd e who st2, v', Q', by omega, by go_num, hM9, hGm, by omega⟩
                          | (repeat (apply Exists.intro)
                             exact ⟨⟨i + 1, upd e who st2, v', Q', by omega, by go_num, hM9, hGm, by omega⟩, rfl⟩)
                          | (iterate 100 (apply Exists.intro)
                             exact ⟨⟨i + 1, upd e who st2, v', Q', by omega, by go_num, hM9, hGm, by omega⟩, rfl⟩)
                      | true =>
                        have hx1 : x1 = 1 := htk1.out rfl
                        subst hx1
                        have hlq : (Q' o).length ≤ 100000 := by rcases two_cases ho with rfl | rfl <;> omega
                        go_upto_region 30 with (fail)
                        have hMd := Lib.hid (hM9.out.below (below_drewN (Below.refl _ _) 1))
                        have hXd : Hid (wc.drew.heap[tz]? = some (.cells (dgmA 1 x2 x3) 34 (0, 0))) := hide hX9.out
                        have hXs : Hid (∀ y, Below wc.drew.heap.size wc.drew y → (fun y : World => blk y tz = some (.cells (dgmA 1 x2 x3) 34 (0, 0))) y) := hide (fun y hy => blk_of ((hy.block _ (Array.getElem?_eq_some_iff.1 hXd.out).1).trans hXd.out))
                        have hHeld := hXs.out _ (Below.refl _ _)
                        refine h_begin 11 (fun y : World => blk y tz = some (.cells (dgmA 1 x2 x3) 34 (0, 0))) rfl (by kernel_rfl) hHeld ?_
                        first
                          | (refine h_run (i := 0) (v := ?_) hHeld rfl (by kernel_rfl) (by kernel_rfl) (by kernel_rfl) ?_ ?_ ?_
                             rotate_left
                             · rfl
                             · (intro x hSx; (try dsimp only at hSx); go_simp <;> with_reducible rfl)
                             simp only [Act.put, List.setIfInBounds_toArray, List.set_cons_zero, List.set_cons_succ])
                          | (refine h_skip (i := 0) hHeld rfl (by kernel_rfl) (by kernel_rfl) (by kernel_rfl) ?_ ?_
                             · rfl
                             simp only [Act.put, List.setIfInBounds_toArray, List.set_cons_zero, List.set_cons_succ])
                        first
                          | (refine h_run (i := 1) (v := ?_) hHeld rfl (by kernel_rfl) (by kernel_rfl) (by kernel_rfl) ?_ ?_ ?_
                             rotate_left
                             · rfl
                             · (intro x hSx; (try dsimp only at hSx); go_simp <;> with_reducible rfl)
                             simp only [Act.put, List.setIfInBounds_toArray, List.set_cons_zero, List.set_cons_succ])
                          | (refine h_skip (i := 1) hHeld rfl (by kernel_rfl) (by kernel_rfl) (by kernel_rfl) ?_ ?_
                             · rfl
                             simp only [Act.put, List.setIfInBounds_toArray, List.set_cons_zero, List.set_cons_succ])
                        first
                          | (refine h_run (i := 2) (v := ?_) hHeld rfl (by kernel_rfl) (by kernel_rfl) (by kernel_rfl) ?_ ?_ ?_
                             rotate_left
                             · rfl
                             · (intro x hSx; (try dsimp only at hSx); go_simp <;> with_reducible rfl)
                             simp only [Act.put, List.setIfInBounds_toArray, List.set_cons_zero, List.set_cons_succ])
                          | (refine h_skip (i := 2) hHeld rfl (by kernel_rfl) (by kernel_rfl) (by kernel_rfl) ?_ ?_
                             · rfl
                             simp only [Act.put, List.setIfInBounds_toArray, List.set_cons_zero, List.set_cons_succ])
                        first
                          | (refine h_run (i := 3) (v := ?_) hHeld rfl (by kernel_rfl) (by kernel_rfl) (by kernel_rfl) ?_ ?_ ?_
                             rotate_left
                             · rfl
                             · (intro x hSx; (try dsimp only at hSx); go_simp <;> with_reducible rfl)
                             simp only [Act.put, List.setIfInBounds_toArray, List.set_cons_zero, List.set_cons_succ])
                          | (refine h_skip (i := 3) hHeld rfl (by kernel_rfl) (by kernel_rfl) (by kernel_rfl) ?_ ?_
                             · rfl
                             simp only [Act.put, List.setIfInBounds_toArray, List.set_cons_zero, List.set_cons_succ])
                        first
                          | (refine h_run (i := 4) (v := ?_) hHeld rfl (by kernel_rfl) (by kernel_rfl) (by kernel_rfl) ?_ ?_ ?_
                             rotate_left
                             · rfl
                             · (intro x hSx; (try dsimp only at hSx); go_simp <;> with_reducible rfl)
                             simp only [Act.put, List.setIfInBounds_toArray, List.set_cons_zero, List.set_cons_succ])
                          | (refine h_skip (i := 4) hHeld rfl (by kernel_rfl) (by kernel_rfl) (by kernel_rfl) ?_ ?_
                             · rfl
                             simp only [Act.put, List.setIfInBounds_toArray, List.set_cons_zero, List.set_cons_succ])
                        first
                          | (refine h_run (i := 6) (v := ?_) hHeld rfl (by kernel_rfl) (by kernel_rfl) (by kernel_rfl) ?_ ?_ ?_
                             rotate_left
                             · rfl
                             · (intro x hSx; (try dsimp only at hSx); go_simp <;> with_reducible rfl)
                             simp only [Act.put, List.setIfInBounds_toArray, List.set_cons_zero, List.set_cons_succ])
                          | (refine h_skip (i := 6) hHeld rfl (by kernel_rfl) (by kernel_rfl) (by kernel_rfl) ?_ ?_
                             · rfl
                             simp only [Act.put, List.setIfInBounds_toArray, List.set_cons_zero, List.set_cons_succ])
                        clear hHeld
                        have hal : Hid (Below wc.drew.heap.size wc.drew (wc.drew.alloc (.cells (dgmA 1 x2 x3) 34))) := hide ((Below.refl _ _).alloc (Nat.le_refl _) _)
                        have hMa := Lib.hid (hMd.out.below hal.out)
                        obtain ⟨v6, hM7w, hr6, hq6, hg6, hf6⟩ := q_push (hMa.out.qu o ho) hMa.out.lo.size hlq wc.drew.heap.size (x2, x3) (last_block0 wc.drew (.cells (dgmA 1 x2 x3) 34) _ rfl) 30
                        obtain ⟨s6, c6, hv6⟩ := hq6.form
                        rw [List.length_append] at hv6
                        replace hv6 : v6 = (.slice s6 ((Q' o).length + 1) c6) := hv6
                        subst hv6
                        have hM7 := Lib.hid (hMa.out.turn ho hg6 hq6 hf6)
                        have hr6h := Lib.hid hr6
                        have cO := (hM9.out.way ho).1
                        have cO' : (wc.alloc (.cells (dgmA 1 x2 x3) 34)).cell? ⟨t8, o, none⟩ = some (v' o) := (hMa.out.way ho).1
                        obtain ⟨b86, cO6, fO6⟩ := hMa.out.cell6 ho hg6
                        have hX6h : Hid ((fun y : World => blk y tz = some (.cells (dgmA 1 x2 x3) 34 (0, 0))) hM7w) := hide (blk_of ((hg6.block tz (by show _ < (wc.drew.heap.push _).size; rw [Array.size_push]; have := (Array.getElem?_eq_some_iff.1 hXd.out).1; omega) (fun e => hXne.out o ho e.symm)).trans ((hal.out.block _ (Array.getElem?_eq_some_iff.1 hXd.out).1).trans hXd.out)))
                        have hX7h : Hid ((fun y : World => blk y tz = some (.cells (dgmA 1 x2 x3) 34 (0, 0))) (hM7w.setCell ⟨t8, o, none⟩ (.slice s6 ((Q' o).length + 1) c6))) := hide (blk_of ((heap_setCell_other hM7w ⟨t8, o, none⟩ tz _ (ty_ne2 hXd.out hMd.out.b8 (by decide))).trans (blk_heap hX6h.out)))
                        have hX8h := Lib.hid (hXs.out _ hal.out)
                        have hX9h := Lib.hid (hXs.out _ (Below.refl _ _))
                        clear hr6 hq6 hg6 hf6 b86
                        refine h_push (i := 5) (j := 7) (k := 8) (w6 := hM7w) (v' o) (.slice s6 ((Q' o).length + 1) c6) (.slice (some ⟨wc.drew.heap.size, 0, none⟩) 1 1) (.cells (dgmA 1 x2 x3) 34) rfl rfl rfl (by kernel_rfl) (by kernel_rfl) (by kernel_rfl) (by kernel_rfl) (fun _ => rfl) (fun _ => rfl) (fun _ => rfl) ?_ ?_ ?_ ?_ ?_ rfl rfl hX9h.out hX8h.out hX6h.out ?_
                        · go_simp <;> with_reducible rfl
                        · go_simp <;> with_reducible rfl
                        · unfold dgmA
                          go_simp <;> rfl
                        · unfold dgmA
                          go_simp <;> rfl
                        · exact exec_appendP (.tmp 150) (.tmp 152) _ _ rfl rfl rfl hr6h.out
                        simp only [Act.put, List.setIfInBounds_toArray, List.set_cons_zero, List.set_cons_succ]
                        clear cO cO'
                        have hHeld := hX6h.out
                        first
                          | (refine h_run (i := 9) (v := ?_) hHeld rfl (by kernel_rfl) (by kernel_rfl) (by kernel_rfl) ?_ ?_ ?_
                             rotate_left
                             · rfl
                             · (intro x hSx; (try dsimp only at hSx); go_simp <;> with_reducible rfl)
                             simp only [Act.put, List.setIfInBounds_toArray, List.set_cons_zero, List.set_cons_succ])
                          | (refine h_skip (i := 9) hHeld rfl (by kernel_rfl) (by kernel_rfl) (by kernel_rfl) ?_ ?_
                             · rfl
                             simp only [Act.put, List.setIfInBounds_toArray, List.set_cons_zero, List.set_cons_succ])
                        clear hHeld
                        refine h_write (i := 10) (w' := hM7w.setCell ⟨t8, o, none⟩ (.slice s6 ((Q' o).length + 1) c6)) (fun y : World => blk y tz = some (.cells (dgmA 1 x2 x3) 34 (0, 0))) (fun _ h => h) rfl (by kernel_rfl) rfl ?_ hX7h.out ?_
                        · go_simp <;> with_reducible rfl
                        refine h_done (by kernel_rfl) ?_
                        clear cO6 fO6 hMd hXd hXs hal hMa hr6h hX6h hX7h hX8h hX9h
                        have hlq2 := len_push Q' ho (x2, x3)
                        go_wp2_with fail
                        refine ⟨?_, ?_⟩
                        rotate_left
                        · simp [intOf]; omega
                        first
                          | exact ⟨i + 1, upd e who st2, _, _, by omega, by go_num, hM7, hGm, by omega⟩
                          | (repeat (apply Exists.intro)
                             exact ⟨⟨i + 1, upd e who st2, _, _, by omega, by go_num, hM7, hGm, by omega⟩, rfl⟩)
                          | (iterate 100 (apply Exists.intro)
                             exact ⟨⟨i + 1, upd e who st2, _, _, by omega, by go_num, hM7, hGm, by omega⟩, rfl⟩)
        · have hR0 : Hid (RInv 0 e Q) := hide (RInv.start (hG.out.g (by omega)) (hG.out.g (by omega)) (hG.out 0 (by omega)).1.r1 (hG.out 1 (by omega)).1.r1 (by omega))
          have hG0 : Hid (GdOk e (61 + 402 * ((0 : Nat) : Int))) := hide (hG.out.mono (by omega))
          have hcond : ((i : Int) < (len2 : Int) ∧ ¬ (i : Int) < 60 ∧ decide ((i : Int) < 60) = false) ∨ (¬ (i : Int) < (len2 : Int) ∧ decide ((i : Int) < (len2 : Int)) = false ∧ decide (i < len2) = false) := by
            by_cases hil : i < len2
            · exact .inl ⟨by omega, by omega, decide_eq_false (by omega)⟩
            · exact .inr ⟨by omega, decide_eq_false (by omega), decide_eq_false hil⟩
          rcases hcond with ⟨d1, d2, d3⟩ | ⟨d1, d2, d3⟩
          all_goals
            clear hrun hops
            have hM2 := hM
            clear hM hG hQ
            go_upto_region 31 with (fail)
            clear d1 d2 d3
            go_upto_region 32 with (fail)
            refine meets_loop w wr t7 t8 p e v Q hM2 hG0 hR0 _ _ rfl rfl rfl rfl ?_
            clear hM2 hG0 hR0
            rintro t9 w9 hs9 h7 ⟨e9, v9, Q9, hM9, s0, s1⟩
            obtain ⟨x9, rfl, hx9⟩ := frame237 t9 hs9
            have g7 := (hx9 7 (by decide)).trans h7
            rw [g7]
            have hb9 := Lib.hid hM9.lo
            have c0 := mt_state hM9 (j := 0) (by omega)
            have c1 := mt_state hM9 (j := 1) (by omega)
            have p0 := hM9.ptr (j := 0) (by omega)
            have p1 := hM9.ptr (j := 1) (by omega)
            rw [s0] at c0
            rw [s1] at c1
            clear hM9 s0 s1 hs9 h7 hx9 g7
            go_wp2_with fail
            go_ret
            exact ⟨rfl, hb9.out⟩
end Go.Proofs.Ytdpngimcmohmaaa

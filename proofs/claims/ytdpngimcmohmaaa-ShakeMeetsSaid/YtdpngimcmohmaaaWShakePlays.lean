/- The walk of the law ShakePlays: it answers true for every number and every script. -/
import Derived.Test.YtdpngimcmohmaaaShDo
import Derived.Test.YtdpngimcmohmaaaRecK
import Derived.IntWalk
namespace Go.Proofs.Ytdpngimcmohmaaa
open Go.RowKit
set_option maxRecDepth 100000 in
theorem op_info13 : (Try.prog.info? 39).map (·.size) = some 13 := by kernel_rfl
set_option maxRecDepth 100000 in
theorem opA_size (o : OpS) : (opA o).size = 13 := by unfold opA; rfl
/-- the i-th call of a script -/
def OpAt (w : World) (a : Option Addr) (i : Nat) (o : OpS) : Prop := ∃ b off, a = some ⟨b, off, none⟩ ∧ ∀ j v, (opA o)[j]? = some v → w.cell? ⟨b, off + i * 13 + j, none⟩ = some v
set_option maxRecDepth 100000 in
theorem ops_open {w : World} {a : Option Addr} {len cap : Nat} (h : IsRecK [.i .i64, .i .i64, .i .u32, .i .u32, .i .i64, .i .u32, .i .u32, .i .u32, .i .i64, .i .i64, .i .i64, .s, .i .i64] w a len cap) (i : Nat) (hi : i < len) : ∃ o, OpAt w a i o := by
  obtain ⟨f, hf, hc, _⟩ := h
  obtain ⟨b, off, rfl, hcell⟩ := hc i hi
  obtain ⟨v0, e0, _⟩ := (hf i 0 _ hi rfl).int
  obtain ⟨v1, e1, _⟩ := (hf i 1 _ hi rfl).int
  obtain ⟨v2, e2, _⟩ := (hf i 2 _ hi rfl).int
  obtain ⟨v3, e3, _⟩ := (hf i 3 _ hi rfl).int
  obtain ⟨v4, e4, _⟩ := (hf i 4 _ hi rfl).int
  obtain ⟨v5, e5, _⟩ := (hf i 5 _ hi rfl).int
  obtain ⟨v6, e6, _⟩ := (hf i 6 _ hi rfl).int
  obtain ⟨v7, e7, _⟩ := (hf i 7 _ hi rfl).int
  obtain ⟨v8, e8, _⟩ := (hf i 8 _ hi rfl).int
  obtain ⟨v9, e9, _⟩ := (hf i 9 _ hi rfl).int
  obtain ⟨v10, e10, _⟩ := (hf i 10 _ hi rfl).int
  obtain ⟨xa, xl, xc, e11⟩ := (hf i 11 _ hi rfl).slice
  obtain ⟨v12, e12, _⟩ := (hf i 12 _ hi rfl).int
  refine ⟨⟨v0, ⟨v1, v2, v3, v4, v5, v6, v7, v8, v9, v10, .slice xa xl xc⟩, v12⟩, b, off, rfl, fun j v hj => ?_⟩
  have hjl : j < 13 := by
    have := (Array.getElem?_eq_some_iff.1 hj).1
    rw [opA_size] at this; exact this
  have hk : w.cell? ⟨b, off + (i * 13 + j), none⟩ = some (f i j) := hcell j hjl
  rw [show off + (i * 13 + j) = off + i * 13 + j by omega] at hk
  refine hk.trans ?_
  rcases j with _ | _ | _ | _ | _ | _ | _ | _ | _ | _ | _ | _ | _ | j
  · rw [← hj, e0]; rfl
  · rw [← hj, e1]; rfl
  · rw [← hj, e2]; rfl
  · rw [← hj, e3]; rfl
  · rw [← hj, e4]; rfl
  · rw [← hj, e5]; rfl
  · rw [← hj, e6]; rfl
  · rw [← hj, e7]; rfl
  · rw [← hj, e8]; rfl
  · rw [← hj, e9]; rfl
  · rw [← hj, e10]; rfl
  · rw [← hj, e11]; rfl
  · rw [← hj, e12]; rfl
  · omega
set_option maxRecDepth 100000 in
theorem ld_op0 (v : Value) : Instr.loadAt 39 v = wLoad 39 v := rfl
set_option maxRecDepth 100000 in
theorem op_run (w : World) (b off : Nat) (o : OpS) (h : ∀ j v, (opA o)[j]? = some v → w.cell? ⟨b, off + j, none⟩ = some v) : (wLoad 39 (.pointer (some ⟨b, off, none⟩))).run Try.prog w = .ok (.agg (opA o)) w := by
  have h2 := run_loadAt_mid (P := Try.prog) w b off 39 (opA o).toList _ (fun j v hv => h j v (by rw [← hv, Array.getElem?_toList])) Try.underlying39 rfl (by rw [Array.length_toList, opA_size]; exact op_info13)
  rw [ld_op0] at h2
  simpa using h2
def rBuild (parts : Array (Nat × Value)) : Sem Value := Instr.build 48 parts
set_option maxRecDepth 100000 in
theorem rBuild_of (parts : Array (Nat × Value)) : Instr.build 48 parts = rBuild parts := by unfold rBuild; rfl
set_option maxRecDepth 100000 in
theorem rBuild_1 (own : Int) (w : World) : (rBuild #[(1, .int .u32 own)]).run Try.prog w = .ok (.agg (rsA ⟨0, own, 0, 0, 0, 0⟩)) w := by
  have hz := zeroRs
  unfold rBuild
  unfold rsA zRs at *
  go_simp
set_option maxRecDepth 100000 in
theorem only_blkB {a w : World} {g : Nat} (h : a.grownBy w (some g)) {b : Nat} (hb : b < a.heap.size) (hne : b ≠ g) : blk w b = blk a b := only_blk h hb hne
/-- what the law's loop leans on -/
def PlAt (w wr : World) (p q : Nat) (s : ShS) : Prop := ShAt wr p s ∧ wr.heap[q]? = some (.cells (rsA s) 48 (0, 0)) ∧ Below w.heap.size w wr
attribute [local irreducible] tokZ rsA dgmA dgA opA dBuild rBuild blk wLoad wLoadRes loadAns wStore wStoreRes storeAns Plain
attribute [local go_sem ↓] dBuild_of rBuild_of ld_rs0 sto_rs0 ld_dg0 sto_dg0 ld_op0
attribute [local go_sem] dBuild_0 dBuild_5 dBuild_6 rBuild_1 ld_rs sto_rs ld_dg sto_dg loadAns_some storeAns_some rs_size rs_plain dg_size dg_plain dgA_size blk_alloc_if blk_setRow_if blk_drew_at blk_drewN_at rowPut_some
set_option maxRecDepth 100000 in
set_option maxHeartbeats 4000000 in
theorem shakePlays_walk (a0 : Int) (a1 : Option Addr) (len1 cap1 : Nat) (w : World) (w0 : (Lit.int .u32 a0).wf = true) (w1 : IsRecK [.i .i64, .i .i64, .i .u32, .i .u32, .i .i64, .i .u32, .i .u32, .i .u32, .i .i64, .i .i64, .i .i64, .s, .i .i64] w a1 len1 cap1) :
    Calls Try.prog 5 #[.int .u32 a0, .slice a1 len1 cap1] w fun e w' => e = .returned (.bool true) ∧ Below w.heap.size w w' := by
  obtain ⟨hn0, hn1⟩ : 0 ≤ a0 ∧ a0 < 4294967296 := by
    have h : IntKind.u32.min ≤ a0 ∧ a0 ≤ IntKind.u32.max := by simpa [Lit.wf] using w0
    have h1 : IntKind.u32.min = 0 := by decide
    have h2 : IntKind.u32.max = 4294967295 := by decide
    omega
  have hlen : len1 ≤ cap1 := by obtain ⟨_, _, _, h, _⟩ := w1; exact h
  have hcap : cap1 ≤ maxLen := by obtain ⟨_, _, _, _, h, _⟩ := w1; exact h
  unfold maxLen at hcap
  have hops := Lib.hid (ops_open w1)
  have hz := zeroDg
  have hz2 := zeroRs
  clear w0 w1
  go_enter Try.func5, Try.ntmps5
  go_wp2_with fail
  refine (shake_awake w).mono ?_
  rintro e w1 ⟨rfl, hb1⟩
  go_wp2_with fail
  refine (s_new a0 w1).mono ?_
  rintro e w2 ⟨rfl, hw2⟩
  have hs2 : ShAt w2 w1.heap.size ⟨0, a0, 0, 0, 0, 0⟩ := by rw [hw2]; exact last_block0 _ _ _ rfl
  have hb2 : Below w.heap.size w w2 := by rw [hw2]; exact hb1.alloc hb1.size _
  have hp := hb1.size
  have hp2 := (Array.getElem?_eq_some_iff.1 hs2).1
  clear hw2 hb1
  generalize w1.heap.size = p at *
  go_upto_region 5 with (fail)
  obtain ⟨q1, q2, q3, q4⟩ := box_one w2 (rsA zRs) (rsA ⟨0, a0, 0, 0, 0, 0⟩) 48
  have hsV := hs2.below q4
  have hBV := hb2.trans (q4.mono hb2.size)
  have hqp : w.heap.size ≤ w2.heap.size := hb2.size
  clear hs2 hb2 q2 q4
  generalize World.setRow (World.alloc w2 _) _ _ = V at *
  generalize hqe : w2.heap.size = q at *
  have hqV : q < V.heap.size := by omega
  clear hqe q3
  have hsVh := Lib.hid hsV
  have hBVh := Lib.hid hBV
  have q1h := Lib.hid q1
  clear hsV hBV
  go_wp2_with fail
  refine (q_same p _ V hsVh.out).mono ?_
  rintro e X ⟨rfl, hX⟩
  have hst : Hid (PlAt w X p q ⟨0, a0, 0, 0, 0, 0⟩) := hide ⟨hsVh.out.below hX, (hX.block q hqV).trans (blk_heap q1h.out), hBVh.out.trans (hX.mono hBVh.out.size)⟩
  have hB0 : ShB ⟨0, a0, 0, 0, 0, 0⟩ (40 * ((0 : Nat) : Int)) := ⟨hn0, hn1, by simp, by simp, fun _ => by simp, by simp, by simp, by simp, by simp⟩
  have hZ0 : ShZ ⟨0, a0, 0, 0, 0, 0⟩ := fun _ => by simp
  clear hX hsVh hBVh q1h q1
  go_upto_region 8 with (fail)
  go_loopw [7] (fun v7 wr => ∃ (i : Nat) (s : ShS), i ≤ len1 ∧ i ≤ 60 ∧ v7 = .int .i64 (i : Nat) ∧ ShB s (40 * (i : Int)) ∧ ShZ s ∧ Hid (PlAt w wr p q s)) (fun v7 _ => len1 - (intOf v7).toNat)
  case atStart => exact ⟨0, _, Nat.zero_le _, Nat.zero_le _, rfl, hB0, hZ0, hst⟩
  case round =>
    obtain ⟨i, s, hi, hi60, rfl, hB, hZ, hP⟩ := hrel
    clear hst hB0 hZ0 hqV
    have hDo := Lib.hid (fun (o : OpS) (y : World) (h : ShAt y p s) => q_do p s o y h (40 * (i : Int)) hB (by omega))
    have hnB := Lib.hid (fun o => hB.do hZ o)
    have hnZ := Lib.hid (fun o => hZ.do o)
    clear hB hZ
    by_cases hlt : i < len1
    · have i1 : (i : Int) < (len1 : Int) := by omega
      by_cases h60 : i < 60
      · have i2 : (i : Int) < 60 := by omega
        obtain ⟨o, b, off, rfl, hcell⟩ := hops.out i hlt
        have hbw : b < w.heap.size := cell_block_lt (hcell 0 _ (opA_c0 o))
        obtain ⟨hs9, hq9, hb9⟩ := hP.out
        have hqr := (Array.getElem?_eq_some_iff.1 hq9).1
        have hpr := (Array.getElem?_eq_some_iff.1 hs9).1
        have hszr := hb9.size
        have hs9h := Lib.hid hs9
        have hq9h := Lib.hid hq9
        have hb9h := Lib.hid hb9
        have hnB2 := Lib.hid (hnB.out o)
        have hnZ2 := Lib.hid (hnZ.out o)
        have hDo2 := Lib.hid (hDo.out o)
        have hcl : Hid (∀ w' : World, wr.grownBy w' (some p) → ∀ j v, (opA o)[j]? = some v → w'.cell? ⟨b, off + i * 13 + j, none⟩ = some v) := hide (fun w' hg j v hj => (World.cell?_of_block (only_blk (b := b) hg (by omega) (by omega))).trans ((hb9h.out.cell (p := ⟨b, off + i * 13 + j, none⟩) hbw).trans (hcell j v hj)))
        clear hs9 hq9 hb9 hP hnB hnZ hDo hcell
        generalize doS s o = s2 at *
        go_upto_region 10 with (fail)
        go_cut [8, 9] (fun v8 v9 wx => ∃ g : Nat, v8 = .pointer (some ⟨g, 0, none⟩) ∧ v9 = .bool true ∧ wr.heap.size ≤ g ∧ Hid (blk wx g = some (.cells (rsA s2) 48 (0, 0))) ∧ Hid (ShAt wx p s2) ∧ Hid (wr.grownBy wx (some p)))
        case first =>
          have hS1 : Hid (∀ w' : World, wr.grownBy w' (some p) → (blk w' q = some (.cells (rsA s) 48 (0, 0)) ∧ (wLoad 39 (.pointer (some ⟨b, off + i * 13, none⟩))).run Try.prog w' = .ok (.agg (opA o)) w' ∧ wr.grownBy w' (some p))) := hide (fun w' hg => ⟨blk_of ((only_blk hg hqr (by omega)).trans hq9h.out), op_run w' b (off + i * 13) o (hcl.out w' hg), hg⟩)
          have hk0 : (0 : Int) ≤ (i : Int) := by omega
          have hne : wr.heap.size ≠ p := by omega
          clear hq9h hb9h hcl hnB2 hnZ2
          go_region_held3 (fun w' => blk w' q = some (.cells (rsA s) 48 (0, 0)) ∧ (wLoad 39 (.pointer (some ⟨b, off + i * 13, none⟩))).run Try.prog w' = .ok (.agg (opA o)) w' ∧ wr.grownBy w' (some p))
            (first | (refine hS1.out _ ?_; exact only_drew (only_refl _ _)) | (go_split_ands; refine hS1.out _ ?_; first | exact only_trans (by assumption) (by assumption) | exact only_alloc (by assumption) _ | exact only_setRow (by assumption) (.inr (by first | exact Nat.le_refl _ | omega)) _))
            (first | (go_at_call 14; refine (hDo2.out _ (by first | exact hs9h.out.drew | exact hs9h.out.drew.alloc _)).mono ?_; rintro e w1 ⟨rfl, hs2, hg2⟩; have hsz1 : wr.heap.size ≤ w1.heap.size := (by first | exact size_le_drew _ hg2.size | exact size_le_alloc _ _ hg2.size); have hs2h := Lib.hid hs2; clear hs2; try (have hz1 := only_blkB hg2 (size_lt_alloc wr _) hne)))
          all_goals go_wp2_with fail
          all_goals go_meet
          · exact ⟨_, rfl, rfl, hsz1, hide (box_one w1 (rsA zRs) (rsA s2) 48).1, hide ((hs2h.out.alloc _).setRow (by omega) _), hide (only_setRow (only_alloc (only_trans (only_drew (only_refl _ _)) hg2) _) (.inr hsz1) _)⟩
          · exact ⟨_, rfl, rfl, Nat.le_refl _, hide (blk_of (setRow_heap _ _ _ _ _ _ (blk_heap (hz1.trans (blk_of (last_block0 wr.drew _ _ rfl)))))), hide (hs2h.out.setRow (by omega) _), hide (only_setRow (only_trans (only_alloc (only_drew (only_refl _ _)) _) hg2) (.inr (Nat.le_refl _)) _)⟩
        case rest =>
          obtain ⟨g, rfl, rfl, hg, hG, hS, hon⟩ := hcut
          have hBc := Lib.hid (below_of_only hb9h.out hon.out hszr hp)
          have hQc := Lib.hid (blk_of ((only_blk hon.out hqr (by omega)).trans hq9h.out))
          have hr1 := hnB2.out.r1
          have hr2 := hnB2.out.r2
          have hne25 : (s2.rd * 25 != s2.rd * 25) = false := by simp
          have hif4 : ¬ 4 < s2.rd := by omega
          have hw25 : IntKind.i64.wrap (s2.rd * 25) = s2.rd * 25 := IntWalk.i64_in _ (by omega)
          have hgl := blk_lt hG.out
          have hql : q < wc.heap.size := blk_lt hQc.out
          have hqg : q ≠ g := by omega
          clear hq9h hb9h hcl hs9h hDo2 hon
          have hCs : Hid (∀ x : World, ShAt x p s2 → blk x g = some (.cells (rsA s2) 48 (0, 0)) → Below wc.heap.size wc x → (blk x g = some (.cells (rsA s2) 48 (0, 0)) ∧ x.cell? ⟨g, 3, none⟩ = some (.int .i64 s2.rd) ∧ ShAt x p s2 ∧ Below wc.heap.size wc x)) := hide (fun x h1 h2 h3 => ⟨h2, (cell_of_block (blk_heap h2)).trans (rsA_c3 s2), h1, h3⟩)
          have hclh : Hid (∀ x x' : World, (blk x g = some (.cells (rsA s2) 48 (0, 0)) ∧ x.cell? ⟨g, 3, none⟩ = some (.int .i64 s2.rd) ∧ ShAt x p s2 ∧ Below wc.heap.size wc x) → Below x.heap.size x x' → (blk x' g = some (.cells (rsA s2) 48 (0, 0)) ∧ x'.cell? ⟨g, 3, none⟩ = some (.int .i64 s2.rd) ∧ ShAt x' p s2 ∧ Below wc.heap.size wc x')) := hide (fun x x' h hb => hCs.out x' (h.2.2.1.below hb) ((blk_below hb (blk_lt h.1)).trans h.1) (below_step h.2.2.2 h.2.2.2.size hb))
          have k1 : Hid (∀ x : World, (blk x g = some (.cells (rsA s2) 48 (0, 0)) ∧ x.cell? ⟨g, 3, none⟩ = some (.int .i64 s2.rd) ∧ ShAt x p s2 ∧ Below wc.heap.size wc x) → Calls Try.prog 13 #[.pointer (some ⟨p, 0, none⟩), .agg (rsA s2)] x (Ret x (.bool true))) := hide (fun x h => (q_same p s2 x h.2.2.1).mono fun _ _ h => h)
          have k2 : Hid (∀ x : World, (blk x g = some (.cells (rsA s2) 48 (0, 0)) ∧ x.cell? ⟨g, 3, none⟩ = some (.int .i64 s2.rd) ∧ ShAt x p s2 ∧ Below wc.heap.size wc x) → Calls Try.prog 15 #[.pointer (some ⟨p, 0, none⟩)] x (Ret x (.int .i64 (s2.rd * 25)))) := hide (fun x h => (s_share p s2 x h.2.2.1 hr1 hr2).mono fun e w' ⟨h1, h2⟩ => ⟨h1, h2 ▸ Below.refl _ _⟩)
          have hS0 := hCs.out wc.drew hS.out.drew ((blk_drew_at wc g).trans hG.out) (below_drewN (Below.refl _ _) 1)
          go_upto_region 11 with (fail)
          refine wp_region_quiet (C := fun x => blk x g = some (.cells (rsA s2) 48 (0, 0)) ∧ x.cell? ⟨g, 3, none⟩ = some (.int .i64 s2.rd) ∧ ShAt x p s2 ∧ Below wc.heap.size wc x) (by kernel_rfl) (by kernel_rfl) hS0 ?_
          clear hS0 hG hS
          repeat (first
            | (refine q_run (v := ?_) ?_ ?_ ?_
               rotate_left
               · rfl
               · (intro x hSx; (try dsimp only at hSx); go_simp <;> with_reducible rfl)
               simp only [Act.put, List.setIfInBounds_toArray, List.set_cons_zero, List.set_cons_succ])
            | (refine q_skip ?_ ?_
               · rfl
               simp only [Act.put, List.setIfInBounds_toArray, List.set_cons_zero, List.set_cons_succ])
            | (refine q_call (fun x hCx => k1.out x hCx) hclh.out ?_ ?_ ?_
               · rfl
               · (intro x hSx; (try dsimp only at hSx); go_simp <;> with_reducible rfl)
               simp only [Act.put, List.setIfInBounds_toArray, List.set_cons_zero, List.set_cons_succ])
            | (refine q_call (fun x hCx => k2.out x hCx) hclh.out ?_ ?_ ?_
               · rfl
               · (intro x hSx; (try dsimp only at hSx); go_simp <;> with_reducible rfl)
               simp only [Act.put, List.setIfInBounds_toArray, List.set_cons_zero, List.set_cons_succ]))
          refine wpQuiet_nil ?_
          intro x hSx
          obtain ⟨hx1, _, hx3, hx4⟩ := hSx
          have hxq := (blk_below hx4 hql).trans hQc.out
          have hx3h := Lib.hid hx3
          have hxB := Lib.hid (hBc.out.trans (hx4.mono hBc.out.size))
          clear hx3 hx4 hBc hQc hCs hclh k1 k2
          clear hne25 hif4 hw25
          go_wp2_with fail
          go_roundw
          case rel => exact ⟨i + 1, s2, by omega, by omega, by go_num, hnB2.out.mono (by omega), hnZ2.out, hide ⟨hx3h.out.setRow (by omega) _, setRow_heap _ _ _ _ _ _ (blk_heap hxq), below_setRow hxB.out hqp _⟩⟩
          case measure => simp [intOf]; omega
      · have i2 : decide ((i : Int) < 60) = false := decide_eq_false (by omega)
        have i3 : decide (i < 60) = false := decide_eq_false (by omega)
        have hb9 := Lib.hid hP.out.2.2
        clear hP
        go_wp2_with fail
        go_ret
        exact ⟨rfl, hb9.out⟩
    · obtain rfl : i = len1 := by omega
      have i2 : decide ((i : Int) < (i : Int)) = false := by simp
      have hb9 := Lib.hid hP.out.2.2
      clear hP
      go_wp2_with fail
      go_ret
      exact ⟨rfl, hb9.out⟩
end Go.Proofs.Ytdpngimcmohmaaa

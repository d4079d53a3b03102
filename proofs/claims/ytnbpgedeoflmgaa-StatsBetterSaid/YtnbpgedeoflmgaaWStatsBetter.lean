/- The walk of the law StatsBetter: it answers true for every two lists of marks and trips. -/
import Derived.Test.YtnbpgedeoflmgaaStats7
import Derived.Test.YtnbpgedeoflmgaaRead
namespace Go.Proofs.Ytnbpgedeoflmgaa
open Go.RowKit
theorem sc_mono (a b : StS) (c : Int) (oka : StOk a c) (okb : StOk b c) (h1 : b.loss ≤ a.loss) (h2 : b.rtt ≤ a.rtt) : scZ a ≤ scZ b := by
  obtain ⟨l0, l1, r0, r1, _, _, _, _, _, _⟩ := oka
  obtain ⟨k0, k1, q0, q1, _, _, _, _, _, _⟩ := okb
  unfold scZ
  refine Int.le_ediv_of_mul_le (by omega) ?_
  have hA : 0 ≤ (65536 - a.loss) * 64 / (64 + a.rtt) := Int.ediv_nonneg (by omega) (by omega)
  have h3 : (65536 - a.loss) * 64 / (64 + a.rtt) * (64 + b.rtt) ≤ (65536 - a.loss) * 64 / (64 + a.rtt) * (64 + a.rtt) := Int.mul_le_mul_of_nonneg_left (by omega) hA
  have h4 := Int.ediv_mul_le ((65536 - a.loss) * 64) (show 64 + a.rtt ≠ 0 by omega)
  omega
attribute [local irreducible] twZ tick8 clampZ floorZ satZ cdZ stTrip waZ ndZ foldT scZ
attribute [local irreducible] blk wLoad wLoadRes loadAns wStore wStoreRes storeAns Plain stA
attribute [local go_sem ↓] ld_s0 ld_r0 sto_s0 sto_r0
attribute [local go_sem] ld_s ld_r sto_s sto_r loadAns_some storeAns_some st_size5 st_plain blk_alloc_if blk_setRow_if blk_drew_at blk_drewN_at rowPut_some
set_option maxRecDepth 100000 in
set_option maxHeartbeats 4000000 in
theorem statsBetter_walk (a0 : Option Addr) (len0 cap0 : Nat) (a1 : Option Addr) (len1 cap1 : Nat) (w : World) (w0 : IsRec [none, none, some .i64] w a0 len0 cap0) (w1 : IsRec [none, none, some .i64] w a1 len1 cap1) :
    Calls Try.prog 6 #[.slice a0 len0 cap0, .slice a1 len1 cap1] w fun e w' => e = .returned (.bool true) ∧ Below w.heap.size w w' := by
  obtain ⟨g, hg⟩ := ops_open w0
  obtain ⟨f, hf⟩ := ops_open w1
  have hn : len0 ≤ 9223372036854775807 := by obtain ⟨_, _, _, h1, h2, _⟩ := w0; unfold maxLen at h2; omega
  have hn1 : len1 ≤ 9223372036854775807 := by obtain ⟨_, _, _, h1, h2, _⟩ := w1; unfold maxLen at h2; omega
  have hgh := hide hg
  have hfh := hide hf
  have hz := zeroSt
  have hz2 := zeroRst
  clear w0 w1 hg hf
  go_enter Try.func6, Try.ntmps6
  go_wp2_with fail
  refine (st_awake w).mono ?_
  rintro e w1 ⟨rfl, hb1⟩
  go_wp2_with fail
  refine (st_played a0 len0 cap0 g w1 (hgh.out.below hb1) hn).mono ?_
  rintro e w2 ⟨k, hk, hk2, rfl, hb2⟩
  have hb := hb1.trans (hb2.mono hb1.size)
  have hs2 : w.heap.size ≤ w2.heap.size := hb.size
  have oka : StOk (foldT g k) 300 := StOk.mono (foldT_ok g k) (by omega)
  clear hb1 hb2 hgh
  generalize foldT g k = s at *
  go_upto_region 4 with (fail)
  have hS : StAt (((((w2.alloc (.cells (stA z0T) 25)).alloc (.cells (stA z0T) 26)).setRow w2.heap.size (stA s)).setRow (w2.heap.size + 1) (stA s))) w2.heap.size s :=
    (setRow_other _ _ _ _ (by omega)).trans (setRow_heap _ _ _ _ _ _ (blk_alloc (last_block0 w2 _ _ rfl) _))
  have hB : Below w.heap.size w ((((w2.alloc (.cells (stA z0T) 25)).alloc (.cells (stA z0T) 26)).setRow w2.heap.size (stA s)).setRow (w2.heap.size + 1) (stA s)) := by
    refine below_setRow (below_setRow ((hb.alloc hs2 _).alloc ?_ _) ?_ _) ?_ _
    · show _ ≤ (w2.heap.push _).size; rw [Array.size_push]; omega
    · exact hs2
    · omega
  generalize World.setRow (World.setRow _ _ _) _ _ = W at hS hB ⊢
  have hWs := hB.size
  have hWl := hS.lt
  clear hb
  go_wp2_with fail
  refine (st_played a1 len1 cap1 f W (hfh.out.below hB) hn1).mono ?_
  rintro e w3 ⟨k', hk', hk2', rfl, hb3⟩
  have okb : StOk (foldT f k') 300 := StOk.mono (foldT_ok f k') (by omega)
  have hb := hB.trans (hb3.mono hWs)
  have hS3 : StAt w3 w2.heap.size s := (hb3.block _ hWl).trans hS
  have hs3 : w.heap.size ≤ w3.heap.size := hb.size
  have hl3 := hS3.lt
  clear hB hb3 hfh hS
  generalize foldT f k' = t at *
  go_upto_region 5 with (fail)
  have hS4 : StAt (((((w3.alloc (.cells (stA z0T) 25)).alloc (.cells (stA z0T) 26)).setRow w3.heap.size (stA t)).setRow (w3.heap.size + 1) (stA t))) w2.heap.size s :=
    (setRow_other _ _ _ _ (by omega)).trans ((setRow_other _ _ _ _ (by omega)).trans (blk_alloc (blk_alloc hS3 _) _))
  have hT4 : StAt (((((w3.alloc (.cells (stA z0T) 25)).alloc (.cells (stA z0T) 26)).setRow w3.heap.size (stA t)).setRow (w3.heap.size + 1) (stA t))) w3.heap.size t :=
    (setRow_other _ _ _ _ (by omega)).trans (setRow_heap _ _ _ _ _ _ (blk_alloc (last_block0 w3 _ _ rfl) _))
  have hB : Below w.heap.size w ((((w3.alloc (.cells (stA z0T) 25)).alloc (.cells (stA z0T) 26)).setRow w3.heap.size (stA t)).setRow (w3.heap.size + 1) (stA t)) := by
    refine below_setRow (below_setRow ((hb.alloc hs3 _).alloc ?_ _) ?_ _) ?_ _
    · show _ ≤ (w3.heap.push _).size; rw [Array.size_push]; omega
    · exact hs3
    · omega
  generalize World.setRow (World.setRow _ _ _) _ _ = V at hS4 hT4 hB ⊢
  have c0 := hS4.c0
  have c1 := hS4.c1
  have d0 := hT4.c0
  have d1 := hT4.c1
  have q5 := blk_of hS4
  have q8 := blk_of hT4
  have l5 := hS4.lt
  have l8 := hT4.lt
  have hmo := sc_mono s t 300 oka okb
  have hmoh := Lib.hid hmo
  have cab := Lib.hid (fun X => s_better s t 300 X oka okb)
  clear hb hS3 hS4 hT4 hmo
  go_upto_region 7 with (fail)
  go_cut [47] (fun v wx => v = .bool false ∧ blk wx w2.heap.size = some (.cells (stA s) 25 (0, 0)) ∧ blk wx w3.heap.size = some (.cells (stA t) 25 (0, 0)) ∧ Below w.heap.size w wx)
  case first =>
    by_cases h1 : t.loss ≤ s.loss
    · by_cases h2 : t.rtt ≤ s.rtt
      · have hd : decide (scZ t < scZ s) = false := decide_eq_false (by have := hmoh.out h1 h2; omega)
        rw [hd] at cab
        clear hd
        go_wp2_with fail
        refine (cab.out _).mono ?_
        rintro e w5 ⟨rfl, hb5⟩
        have r5 := (blk_below hb5 l5).trans q5
        have r8 := (blk_below hb5 l8).trans q8
        have hB5 := hB.trans (hb5.mono hB.size)
        clear c0 c1 d0 d1 q5 q8 hb5 hB
        go_wp2_with fail
        go_meet
        exact ⟨rfl, r5, r8, hB5⟩
      · have hd : decide (t.rtt ≤ s.rtt) = false := decide_eq_false h2
        clear h2
        go_wp2_with fail
        go_meet
        exact ⟨rfl, q5, q8, hB⟩
    · have hd : decide (t.loss ≤ s.loss) = false := decide_eq_false h1
      clear h1
      go_wp2_with fail
      go_meet
      exact ⟨rfl, q5, q8, hB⟩
  case rest =>
    obtain ⟨rfl, p5, p8, hBx⟩ := hcut
    have m5 := blk_lt p5
    have m8 := blk_lt p8
    have cs := Lib.hid (fun X => s_score s 300 X oka)
    have ct := Lib.hid (fun X => s_score t 300 X okb)
    have cba := Lib.hid (fun X => s_better t s 300 X okb oka)
    have hS : ∀ w' : World, Below wc.heap.size wc w' → (blk w' w2.heap.size = some (.cells (stA s) 25 (0, 0)) ∧ blk w' w3.heap.size = some (.cells (stA t) 25 (0, 0)) ∧ Below wc.heap.size wc w') := fun w' hb =>
      ⟨(blk_below hb m5).trans p5, (blk_below hb m8).trans p8, hb⟩
    have hSh := Lib.hid hS
    have hBh := Lib.hid (fun w' (h : Below wc.heap.size wc w') => hBx.trans (h.mono hBx.size))
    have ba := sc_bd s 300 oka
    have bb := sc_bd t 300 okb
    clear hS p5 p8 hBx c0 c1 d0 d1 q5 q8 hB hmoh oka okb
    generalize scZ s = xs at *
    generalize scZ t = xt at *
    by_cases hD : xt < xs
    · have e1 : decide (xt < xs) = true := decide_eq_true hD
      have e2 : decide (xs < xt) = false := decide_eq_false (by omega)
      rw [e1] at cab
      rw [e2] at cba
      go_upto_region 9 with (fail)
      go_region_held3 (fun w' => blk w' w2.heap.size = some (.cells (stA s) 25 (0, 0)) ∧ blk w' w3.heap.size = some (.cells (stA t) 25 (0, 0)) ∧ Below wc.heap.size wc w')
        (first | (refine hSh.out _ ?_; exact below_drewN (Below.refl _ _) 1) | (go_split_ands; refine hSh.out _ ?_; exact Below.trans (by assumption) (Below.mono (by assumption) (Below.size (by assumption)))))
        (first | (go_at_call 16; first | ((with_reducible refine (cab.out _).mono ?_); rintro e w5 ⟨rfl, hb5⟩) | ((with_reducible refine (cba.out _).mono ?_); rintro e w5 ⟨rfl, hb5⟩)) | (go_at_call 13; first | ((with_reducible refine (cs.out _).mono ?_); rintro e w5 ⟨rfl, hb5⟩) | ((with_reducible refine (ct.out _).mono ?_); rintro e w5 ⟨rfl, hb5⟩)))
      all_goals
        rename_i hH
        go_wp2_with fail
        go_ret
        exact ⟨rfl, hBh.out _ hH.2.2⟩
    · have e1 : decide (xt < xs) = false := decide_eq_false hD
      rw [e1] at cab
      go_upto_region 9 with (fail)
      refine wp_region_quiet (C := fun w' => blk w' w2.heap.size = some (.cells (stA s) 25 (0, 0)) ∧ blk w' w3.heap.size = some (.cells (stA t) 25 (0, 0)) ∧ Below wc.heap.size wc w') (by kernel_rfl) (by kernel_rfl) (hSh.out _ (below_drewN (Below.refl _ _) 1)) ?_
      have hcl : ∀ x x' : World, (blk x w2.heap.size = some (.cells (stA s) 25 (0, 0)) ∧ blk x w3.heap.size = some (.cells (stA t) 25 (0, 0)) ∧ Below wc.heap.size wc x) → Below x.heap.size x x' → (blk x' w2.heap.size = some (.cells (stA s) 25 (0, 0)) ∧ blk x' w3.heap.size = some (.cells (stA t) 25 (0, 0)) ∧ Below wc.heap.size wc x') := fun x x' h hb => hSh.out _ (below_step h.2.2 h.2.2.size hb)
      have hclh := Lib.hid hcl
      clear hcl
      repeat (first
        | (refine q_run (v := ?_) ?_ ?_ ?_
           rotate_left
           · rfl
           · (intro x hSx; (try dsimp only at hSx); go_simp <;> with_reducible rfl)
           simp only [Act.put, List.setIfInBounds_toArray, List.set_cons_zero, List.set_cons_succ])
        | (refine q_skip ?_ ?_
           · rfl
           simp only [Act.put, List.setIfInBounds_toArray, List.set_cons_zero, List.set_cons_succ])
        | (refine q_call (fun x _ => cab.out x) hclh.out ?_ ?_ ?_
           · rfl
           · (intro x hSx; (try dsimp only at hSx); go_simp <;> with_reducible rfl)
           simp only [Act.put, List.setIfInBounds_toArray, List.set_cons_zero, List.set_cons_succ])
        | (refine q_call (fun x _ => cba.out x) hclh.out ?_ ?_ ?_
           · rfl
           · (intro x hSx; (try dsimp only at hSx); go_simp <;> with_reducible rfl)
           simp only [Act.put, List.setIfInBounds_toArray, List.set_cons_zero, List.set_cons_succ])
        | (refine q_call (fun x _ => cs.out x) hclh.out ?_ ?_ ?_
           · rfl
           · (intro x hSx; (try dsimp only at hSx); go_simp <;> with_reducible rfl)
           simp only [Act.put, List.setIfInBounds_toArray, List.set_cons_zero, List.set_cons_succ])
        | (refine q_call (fun x _ => ct.out x) hclh.out ?_ ?_ ?_
           · rfl
           · (intro x hSx; (try dsimp only at hSx); go_simp <;> with_reducible rfl)
           simp only [Act.put, List.setIfInBounds_toArray, List.set_cons_zero, List.set_cons_succ]))
      refine wpQuiet_nil ?_
      intro x hSx
      go_wp2_with fail
      go_ret
      exact ⟨rfl, hBh.out _ hSx.2.2⟩
end Go.Proofs.Ytnbpgedeoflmgaa

import Derived.Test.YtmfagdbocidfjaaU16
/- A game's beginning. Conditions: the seed is a 32-bit number. -/
namespace Go.Proofs.Ytmfagdbocidfjaa
open Go.RowKit
def seedS (x : Int) : Nat → Int := setS (fun _ => 0) 1 x
def bornS (x : Int) : Nat → Nat → Int
  | 0 => seedS x
  | n + 1 => hurt3 n (bornS x n)
/-- a game at its beginning -/
def newF (x : Int) : Nat → Int := bornS x 2
set_option maxRecDepth 100000 in
theorem GOk.seed {x : Int} (h : 0 ≤ x ∧ x < 4294967296) : GOk (seedS x) := by
  refine ⟨fun j _ => ?_, ?_⟩
  · unfold seedS
    by_cases e : j = 1
    · subst e; rw [setS_same]; exact ⟨by omega, by omega⟩
    · rw [setS_ne _ _ e]; exact ⟨by omega, by omega⟩
  · unfold seedS; rw [setS_same]; exact h
set_option maxRecDepth 100000 in
theorem GOk.hurt3 {S : Nat → Int} {i : Nat} (h : GOk S) : GOk (Go.Proofs.Ytmfagdbocidfjaa.hurt3 i S) :=
  h.body (by split <;> exact ⟨by omega, by omega⟩) (small_in (by decide) (by decide)) (small_in (by decide) (by decide)) (small_in (by decide) (by decide)) (small_in (by decide) (by decide)) (small_in (by decide) (by decide)) (by split <;> exact small_in (by decide) (by decide))
set_option maxRecDepth 100000 in
theorem GOk.new {x : Int} (h : 0 ≤ x ∧ x < 4294967296) : GOk (newF x) := show GOk (Go.Proofs.Ytmfagdbocidfjaa.hurt3 1 (Go.Proofs.Ytmfagdbocidfjaa.hurt3 0 (seedS x))) from (GOk.seed h).hurt3.hurt3
set_option maxRecDepth 100000 in
theorem newF_frame (x : Int) : newF x 0 = 0 := by unfold newF bornS bornS bornS seedS hurt3 setBody setS; simp
def sBuild (parts : Array (Nat × Value)) : Sem Value := Instr.build 49 parts
set_option maxRecDepth 100000 in
theorem sBuild_of (parts : Array (Nat × Value)) : Instr.build 49 parts = sBuild parts := by unfold sBuild; rfl
set_option maxRecDepth 100000 in
theorem sBuild_1 (x : Int) (w : World) : (sBuild #[(1, .int .u32 x)]).run Try.prog w = .ok (.agg (stA (seedS x))) w := by
  have hz := zeroState
  have hs : (stA fun _ => 0).setIfInBounds 1 (.int .u32 x) = stA (seedS x) := stA_set (fun _ => 0) (o := 1) (by omega) x
  rw [← hs]
  have hl := stA_size (fun _ => 0)
  generalize (stA fun _ => 0) = Z at *
  unfold sBuild
  go_simp
set_option maxRecDepth 100000 in
theorem born_0 (x : Int) : bornS x 0 = seedS x := rfl
set_option maxRecDepth 100000 in
theorem born_succ (x : Int) (i : Nat) : bornS x (i + 1) = hurt3 i (bornS x i) := rfl
set_option maxRecDepth 100000 in
theorem born_two (x : Int) : bornS x 2 = newF x := rfl
attribute [local irreducible] stA bornA bornS newF blk wLoad wLoadRes loadAns wStore wStoreRes storeAns Plain seedS hurt3 sBuild
attribute [local go_sem ↓] ld_st0 sto_st0 sBuild_of
attribute [local go_sem] ld_st sto_st sBuild_1 loadAns_some storeAns_some stA_size st_plain blk_alloc_if blk_setRow_if blk_drew_at blk_drewN_at rowPut_some
set_option maxRecDepth 100000 in
set_option maxHeartbeats 8000000 in
theorem g_new (x : Int) (w : World) : Calls Try.prog 13 #[.int .u32 x] w fun e w' => e = .returned (.agg (stA (newF x))) ∧ Below w.heap.size w w' := by
  have hz := zeroState
  go_enter Try.func13, Try.ntmps13
  go_upto_region 3 with (fail)
  obtain ⟨h0, h1, hs, hB⟩ := two_alloc w (.cells (stA fun _ => 0) 49) (.cells (stA fun _ => 0) 49)
  have s0 : Hid (StAt (((w.alloc (.cells (stA fun _ => 0) 49)).alloc (.cells (stA fun _ => 0) 49)).setRow (w.heap.size + 1) (stA (seedS x))) (w.heap.size + 1) (bornS x 0)) := hide (by rw [born_0]; exact setRow_heap _ _ _ _ _ _ h1)
  have hR : Hid ((((w.alloc (.cells (stA fun _ => 0) 49)).alloc (.cells (stA fun _ => 0) 49)).setRow (w.heap.size + 1) (stA (seedS x))).heap[w.heap.size]? = some (.cells (stA fun _ => 0) 49 (0, 0))) := hide ((setRow_other _ _ _ _ (by omega)).trans h0)
  have hBh : Hid (Below w.heap.size w (((w.alloc (.cells (stA fun _ => 0) 49)).alloc (.cells (stA fun _ => 0) 49)).setRow (w.heap.size + 1) (stA (seedS x)))) := hide (below_setRow hB (by omega) _)
  obtain ⟨g, hg⟩ : ∃ g, w.heap.size = g := ⟨_, rfl⟩
  have hgh := Lib.hid hg
  clear h0 h1 hs hB
  generalize World.setRow _ _ _ = W0 at *
  rw [hg] at s0 hR ⊢
  clear hg
  have hRl := Lib.hid (Array.getElem?_eq_some_iff.1 hR.out).1
  go_loopw [7] (fun v7 wr => ∃ i : Nat, i ≤ 2 ∧ v7 = .int .i64 (i : Nat) ∧ Hid (StAt wr (g + 1) (bornS x i)) ∧ Hid (W0.grownBy wr (some (g + 1)))) (fun v7 _ => 2 - (intOf v7).toNat)
  case atStart => exact ⟨0, by omega, rfl, s0, hide (only_refl _ _)⟩
  case round =>
    clear s0
    obtain ⟨i, hi2, rfl, hs, hG⟩ := hrel
    by_cases hi : i < 2
    · have i1 : (i : Int) < 2 := by omega
      have hnext : Hid (bornS x (i + 1) = hurt3 i (bornS x i)) := hide (born_succ x i)
      obtain ⟨T', hTn⟩ : ∃ T', bornS x (i + 1) = T' := ⟨_, rfl⟩
      rw [hTn] at hnext
      have hTnh := Lib.hid hTn
      clear hTn
      generalize bornS x i = T at *
      have hp := born_one i
      go_wp2_with fail
      refine (g_born i hi _).mono ?_
      rintro e w3 ⟨rfl, hB3⟩
      have hh3 : Hid (StAt w3 (g + 1) T) := hide ((hB3.block _ hs.out.lt).trans hs.out)
      have hg3 := Lib.hid (only_trans hG.out (only_of_below hB3 (some (g + 1))))
      have ht : w3.there (g + 1) (2 + i * 7) (bornA i).size := by rw [born_size]; exact hh3.out.there (by omega)
      have hs9 : Hid (StAt (w3.setCells (g + 1) (2 + i * 7) (bornA i).toList) (g + 1) (bornS x (i + 1))) := hide (by rw [hTnh.out, hnext.out]; exact hh3.out.born hi)
      have hG9 := Lib.hid (only_setCells hg3.out (bornA i).toList (2 + i * 7))
      clear hB3 hs hG hh3 hg3
      go_wp2_with (with_reducible refine wpList_store_mid rfl 42 (.tmp 14) (.tmp 12) rfl (g + 1) (2 + i * 7) (bornA i) rfl rfl ht (born_info i) hp ?_)
      go_roundw
      case rel => exact ⟨i + 1, by omega, by go_num, hs9, hG9⟩
      case measure => simp [intOf]; omega
    · obtain rfl : i = 2 := by omega
      have hF : Hid (bornS x 2 = newF x) := hide (born_two x)
      rw [hF.out] at hs
      have b1 : blk wr (g + 1) = some (.cells (stA (newF x)) 49 (0, 0)) := blk_of hs.out
      have b2 : blk wr g = some (.cells (stA fun _ => 0) 49 (0, 0)) := blk_of ((hG.out.block g hRl.out (fun e => by injection e with e; omega)).trans hR.out)
      have hne : g ≠ g + 1 := by omega
      have hB9 : Hid (Below w.heap.size w (wr.setRow g (stA (newF x)))) := hide (below_setRow (below_grown hBh.out (Nat.le_refl _) hG.out (fun p hp => by injection hp with hp; have := hgh.out; omega)) (by have := hgh.out; omega) _)
      have hr9 := Lib.hid (setRow_heap _ _ _ (stA (newF x)) _ _ (blk_heap b2))
      have hinf := st_infoA (newF x)
      clear hs hG
      go_wp2_with fail
      refine bodyPost_ret (v := .agg (stA (newF x))) (results_row1 rfl _ _ g _ (stA (newF x)) (0, 0) _ rfl hr9.out Try.underlying49 rfl hinf) rfl ⟨rfl, hB9.out⟩
end Go.Proofs.Ytmfagdbocidfjaa

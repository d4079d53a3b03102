/- The walk of the law SeqTells: it answers true for every list of numbers, every number and every count. -/
import Derived.Test.YtickioeepicgcaaSeqMiss
namespace Go.Proofs.Ytickioeepicgcaa
open Go.RowKit
attribute [local irreducible] behindZ bw goneM sqLost sqTake sqHoles sqHas sqA rkA foldS clampZ
attribute [local irreducible] blk wLoad wLoadRes loadAns wStore wStoreRes storeAns Plain
attribute [local go_sem ↓] ld_rk0 ld_sq0 st_sq0 st_rk0
attribute [local go_sem] ld_rk loadAns_some rk_size69 ld_sq st_sq st_rk storeAns_some sq_size6 sq_plain rk_plain blk_alloc_if blk_setRow_if blk_drew_at blk_drewN_at rowPut_some
theorem clampZ_to (n : Int) : ((clampZ n 0 64).toNat : Int) ≤ 64 ∧ (∀ i : Nat, ((i : Int) < 64 ∧ (i : Int) < n) ↔ i < (clampZ n 0 64).toNat) := by
  unfold clampZ
  refine ⟨by omega, fun i => by omega⟩
theorem sqHas_cut (s : SqS) (n : Int) : (s.any = false ∧ sqHas s n = false) ∨ (s.any = true ∧ 0 < behindZ n s.top ∧ sqHas s n = false) ∨ (s.any = true ∧ behindZ n s.top ≤ -64 ∧ sqHas s n = false) ∨ (s.any = true ∧ ∃ j : Nat, j < 64 ∧ behindZ n s.top = -(j : Int) ∧ sqHas s n = s.m j) := by
  unfold sqHas
  cases ha : s.any
  · left; simp
  · right
    by_cases h1 : 0 < behindZ n s.top
    · left
      exact ⟨rfl, h1, by rw [show decide (behindZ n s.top ≤ 0) = false by simp; omega]; simp⟩
    · right
      by_cases h2 : behindZ n s.top ≤ -64
      · left
        exact ⟨rfl, h2, by rw [show decide (-64 < behindZ n s.top) = false by simp; omega]; simp⟩
      · right
        refine ⟨rfl, (-(behindZ n s.top)).toNat, by omega, by omega, ?_⟩
        rw [show decide (behindZ n s.top ≤ 0) = true by simp; omega, show decide (-64 < behindZ n s.top) = true by simp; omega]
        simp
set_option maxRecDepth 100000 in
set_option maxHeartbeats 4000000 in
theorem seqTells_walk (a0 : Option Addr) (len0 cap0 : Nat) (z0 : List Int) (a1 : Int) (a2 : Int) (w : World) (w0 : IsRow .u32 w a0 len0 cap0 z0) (w1 : (Lit.int .u32 a1).wf = true) (w2 : (Lit.int .i64 a2).wf = true) :
    Calls Try.prog 5 #[.slice a0 len0 cap0, .int .u32 a1, .int .i64 a2] w fun e w' => e = .returned (.bool true) ∧ Below w.heap.size w w' := by
  obtain ⟨l, rfl, h1, h2, hlb, hs⟩ := isRow_nat w0 4294967296 u32_bd
  obtain ⟨n, rfl, hn⟩ := u32_nat w1
  unfold maxLen at h2
  have hlbh := hide hlb
  have hsh := hide hs
  have hz := zeroRk
  rw [zS_z0] at hz
  have hz2 := zeroSq
  clear w0 hlb hs w1
  go_enter Try.func5, Try.ntmps5
  go_wp2_with fail
  refine (sq_awake w).mono ?_
  rintro e w1 ⟨rfl, hb1⟩
  go_wp2_with fail
  refine (sq_played a0 cap0 l w1 (hsh.out.below hb1) hlbh.out (by omega)).mono ?_
  rintro e w2 ⟨k, hk, hk2, rfl, hb2⟩
  have hb := hb1.trans (hb2.mono hb1.size)
  have hs2 : w.heap.size ≤ w2.heap.size := hb.size
  have hok := foldS_ok l hlbh.out k hk2
  clear hb1 hb2
  generalize foldS l k = s at *
  have htop : 0 ≤ s.top ∧ s.top < 4294967296 := ⟨hok.t1, hok.t2⟩
  clear hok
  go_upto_region 6 with (fail)
  have hS : SqAt ((((w2.alloc (.cells (sqA z0S) 27)).alloc (.cells (rkA z0S) 30)).setRow w2.heap.size (sqA s)).setRow (w2.heap.size + 1) (rkA s)) w2.heap.size s :=
    (setRow_other _ _ _ _ (by omega)).trans (setRow_heap _ _ _ _ _ _ (blk_alloc (last_block0 w2 _ _ rfl) _))
  have hR : RkAt ((((w2.alloc (.cells (sqA z0S) 27)).alloc (.cells (rkA z0S) 30)).setRow w2.heap.size (sqA s)).setRow (w2.heap.size + 1) (rkA s)) (w2.heap.size + 1) s :=
    setRow_heap _ _ _ _ _ _ ((setRow_other _ _ _ _ (by omega)).trans (last_block0 (w2.alloc _) _ _ (by show _ = (w2.heap.push _).size; rw [Array.size_push])))
  have hB : Below w.heap.size w ((((w2.alloc (.cells (sqA z0S) 27)).alloc (.cells (rkA z0S) 30)).setRow w2.heap.size (sqA s)).setRow (w2.heap.size + 1) (rkA s)) := by
    refine below_setRow (below_setRow ((hb.alloc hs2 _).alloc ?_ _) ?_ _) ?_ _
    · show _ ≤ (w2.heap.push _).size; rw [Array.size_push]; omega
    · exact hs2
    · omega
  generalize World.setRow (World.setRow _ _ _) _ _ = W at hS hR hB ⊢
  have hSh := Lib.hid hS
  have hRh := Lib.hid hR
  have hBh := Lib.hid hB
  have cA : W.cell? ⟨w2.heap.size + 1, 0, none⟩ = some (.bool s.any) := (cell_of_block hR).trans (rkA_0 _)
  have cT : W.cell? ⟨w2.heap.size + 1, 1, none⟩ = some (.int .u32 s.top) := (cell_of_block hR).trans (rkA_1 _)
  have kB := blk_of hS
  have kR := blk_of hR
  clear hS hR hB hb hz hz2 h1 h2 hlbh hsh hk hk2
  generalize hP : w2.heap.size = p at *
  clear hP
  have hnb : 0 ≤ (n : Int) ∧ (n : Int) < 4294967296 := ⟨by omega, by omega⟩
  have hBe := r_behind (n : Int) s.top W hnb htop
  have hHas := Lib.hid (fun y h => s_has p s n y h)
  have hHol := Lib.hid (fun y h => s_holes p s a2 y h)
  go_wp2_with fail
  refine hBe.mono ?_
  rintro e w' ⟨rfl, rfl⟩
  clear hBe
  go_upto_region 7 with (fail)
  have hbd := behindZ_bd n s.top
  go_cut [10, 11] (fun _ v11 wc => v11 = .bool (sqHas s n) ∧ W = wc)
  case first =>
    rcases sqHas_cut s n with ⟨ha, h⟩ | ⟨ha, h1, h⟩ | ⟨ha, h1, h⟩ | ⟨ha, j, hj, h1, h⟩
    · rw [ha] at cA
      have hh := Lib.hid h
      clear ha h
      go_wp2_with fail
      go_meet
      exact ⟨by rw [hh.out], rfl⟩
    · rw [ha] at cA
      have hh := Lib.hid h
      have hd : decide (behindZ n s.top ≤ 0) = false := by simp; omega
      clear ha h
      go_wp2_with fail
      go_meet
      exact ⟨by rw [hh.out], rfl⟩
    · rw [ha] at cA
      have hh := Lib.hid h
      have hd : decide (behindZ n s.top ≤ 0) = true := by simp; omega
      have hd2 : decide (-64 < behindZ n s.top) = false := by simp; omega
      clear ha h
      go_wp2_with fail
      go_meet
      exact ⟨by rw [hh.out], rfl⟩
    · rw [ha] at cA
      have hh := Lib.hid h
      rw [h1]
      have cM : W.cell? ⟨p + 1, 2 + j, none⟩ = some (.bool (s.m j)) := (cell_of_block hRh.out).trans (rkA_m s j hj)
      clear ha h h1
      go_wp2_with fail
      go_meet
      exact ⟨by rw [hh.out], rfl⟩
  case rest =>
    obtain ⟨rfl, rfl⟩ := hcut
    clear cT hbd
    obtain ⟨hc64, hcut⟩ := clampZ_to a2
    have hcH := Lib.hid hcut
    clear hcut
    have hHol2 := Lib.hid (fun y h => hHol.out y h)
    clear hHol
    generalize hcc : (clampZ a2 0 64).toNat = c at *
    clear hcc
    have cMs : Hid (∀ i, i < 64 → W.cell? ⟨p + 1, 2 + i, none⟩ = some (.bool (s.m i))) := hide (fun i hi => (cell_of_block hRh.out).trans (rkA_m s i hi))
    go_upto_region 10 with (fail)
    go_loop [12, 13] (fun v12 v13 => ∃ i : Nat, i ≤ c ∧ v13 = .int .i64 (i : Nat) ∧ v12 = .int .i64 (sqHoles s i : Nat)) (fun _ v13 => c - (intOf v13).toNat)
    case atStart => exact ⟨0, Nat.zero_le _, rfl, by rw [sqHoles_0]; rfl⟩
    case round =>
      obtain ⟨i, hi, rfl, rfl⟩ := hrel
      have hle := sqHoles_le s i
      by_cases hic : i < c
      · obtain ⟨h1, h2⟩ := (hcH.out i).2 hic
        have d1 : decide ((i : Int) < a2) = true := by simpa using h2
        have cMi := cMs.out i (by omega)
        cases ha : s.any
        · rw [ha] at cA
          have hnx : Hid (sqHoles s (i + 1) = sqHoles s i) := hide (by rw [sqHoles_s, ha]; rfl)
          clear ha
          go_wp2_with fail
          go_round
          case rel => exact ⟨i + 1, by omega, by go_num, by rw [hnx.out]⟩
          case measure => simp [intOf]; omega
        · rw [ha] at cA
          cases hm : s.m i
          · rw [hm] at cMi
            have hnx : Hid (sqHoles s (i + 1) = sqHoles s i + 1) := hide (by rw [sqHoles_s, ha, hm]; rfl)
            clear ha hm
            go_wp2_with fail
            go_round
            case rel => exact ⟨i + 1, by omega, by go_num, by rw [hnx.out]; go_num⟩
            case measure => simp [intOf]; omega
          · rw [hm] at cMi
            have hnx : Hid (sqHoles s (i + 1) = sqHoles s i) := hide (by rw [sqHoles_s, ha, hm]; rfl)
            clear ha hm
            go_wp2_with fail
            go_round
            case rel => exact ⟨i + 1, by omega, by go_num, by rw [hnx.out]⟩
            case measure => simp [intOf]; omega
      · obtain rfl : c = i := by omega
        have d2 : ¬ ((c : Int) < 64 ∧ (c : Int) < a2) := fun h => absurd ((hcH.out c).1 h) (Nat.lt_irrefl c)
        have hHs := Lib.hid (hHas.out W hSh.out)
        have hfin : Hid (∀ (e : Ending) (y : World), HasPost W (.bool (sqHas s n)) e y → e = .returned (.bool (sqHas s n)) ∧ SqAt y p s ∧ RkAt y (p + 1) s ∧ Below w.heap.size w y) := hide (by
          rintro e y ⟨rfl, k, rfl⟩
          exact ⟨rfl, hSh.out, hRh.out, below_drewN hBh.out k⟩)
        have hgo : decide ((c : Int) < 64) = true ∧ decide ((c : Int) < a2) = false ∨ decide ((c : Int) < 64) = false := by
          by_cases h64 : c < 64
          · left; exact ⟨by simp; omega, by simp; omega⟩
          · right; simp; omega
        clear d2 kB kR hHas cMs cA htop hcH
        generalize sqHas s n = hb at *
        generalize sqHoles s c = ho at *
        have hob : (ho : Int) ≤ 64 := by omega
        rcases hgo with ⟨d4, d3⟩ | d3
        all_goals
          go_wp2_with fail
          refine hHs.out.mono ?_
          intro e y hy
          obtain ⟨rfl, hS1, hR1, hB1⟩ := hfin.out e y hy
          have hHl := Lib.hid (hHol2.out y hS1)
          have hS1h := Lib.hid hS1
          have hR1h := Lib.hid hR1
          have hB1h := Lib.hid hB1
          clear hy hS1 hR1 hB1 hfin hHs hHol2
          cases hb
          all_goals
            go_wp2_with fail
            refine hHl.out.mono ?_
            rintro e z ⟨rfl, m, hz⟩
            have kB : blk z p = some (.cells (sqA s) 27 (0, 0)) := by rw [hz]; exact blk_of hS1h.out
            have kR : blk z (p + 1) = some (.cells (rkA s) 30 (0, 0)) := by rw [hz]; exact blk_of hR1h.out
            have hBz : Hid (Below w.heap.size w z) := hide (by rw [hz]; exact below_drewN hB1h.out m)
            clear hz hHl
            go_wp2_with fail
            refine (q_missing s z).mono ?_
            rintro e u ⟨rfl, hu⟩
            have hBu := Lib.hid (hBz.out.trans (hu.mono hBz.out.size))
            clear hu
            go_wp2_with fail
            go_ret
            exact ⟨rfl, hBu.out⟩
end Go.Proofs.Ytickioeepicgcaa

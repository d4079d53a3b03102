import Derived.Test.YtipfoclmdbbjiaaU18
import Derived.Test.YtipfoclmdbbjiaaU04
/- The document's Weight and At. Conditions: what the rows read as. -/
namespace Go.Proofs.Ytipfoclmdbbjiaa
open Go.RowKit
set_option maxRecDepth 100000 in
theorem BRow.cl {w : World} {g n : Nat} {f : Nat → Nat} (h : BRow w g n f) (i : Nat) (hi : i < n) : w.cell? ⟨g, i, none⟩ = some (.int .u8 (f i : Nat)) := FRow.cell h i hi
set_option maxRecDepth 100000 in
theorem BRow.fz {w : World} {g n : Nat} {f : Nat → Nat} (h : BRow w g n f) (i : Nat) : w.frozen? ⟨g, i, none⟩ = false := FRow.fr h i
attribute [local irreducible] gexp gtbl glog rmul rinv rpow zexp mixF blk flF BRow MRow MAt By IsGf ivS rsF mlF RowsAt upP
set_option maxRecDepth 100000 in
set_option maxHeartbeats 2000000 in
theorem r_weight (k j x : Nat) (s : Option Addr) (cap : Nat) (w : World) (hs : ZAt w .i64 s k (fun i => (i : Nat))) (hk : k ≤ 255) (hj : j < k) (hx : x < 256) :
    Calls Try.prog 63 #[.slice s k cap, .int .i64 (j : Nat), .int .i64 (x : Nat)] w (Ret w (.int .u8 (wtP k j x : Nat))) := by
  have hsh := Lib.hid hs
  obtain ⟨b, off, rfl, cj⟩ := hs j hj
  have cjh := Lib.hid cj
  have hw1 := byteW x hx
  have hw2 := byteW j (by omega)
  have hul := Lib.hid (fun y i => upP_lt j y i)
  have hu0 := Lib.hid (fun y => upP_0 j y)
  have hun := Lib.hid (fun y i => upP_next j y i)
  have hua := Lib.hid (fun y => upP_at j y)
  have hwt : Hid (wtP k j x = rmul (upP j x k) (rinv (upP j j k))) := hide rfl
  rw [hwt.out]
  clear hs cj hwt
  go_enter Try.func63, Try.ntmps63
  go_upto_region 3 with (fail)
  go_loopw [7, 8, 9] (fun v7 v8 v9 wr => ∃ i : Nat, i ≤ k ∧ v9 = .int .i64 (i : Nat) ∧ v7 = .int .u8 (upP j x i : Nat) ∧ v8 = .int .u8 (upP j j i : Nat) ∧ Hid (Below w.heap.size w wr)) (fun _ _ v9 _ => k - (intOf v9).toNat)
  case atStart => exact ⟨0, by omega, rfl, by rw [hu0.out]; rfl, by rw [hu0.out]; rfl, hide (Below.refl _ _)⟩
  case round =>
    obtain ⟨i, hi, rfl, rfl, rfl, hB⟩ := hrel
    by_cases hik : i < k
    · have i1 : (i : Int) < (k : Int) := by omega
      by_cases hij : i = j
      · subst hij
        have e0 := bne_cast_f i
        have ha1 := Lib.hid (hua.out x)
        have ha2 := Lib.hid (hua.out i)
        go_wp2_with fail
        go_roundw
        case rel => exact ⟨i + 1, by omega, by go_num, by rw [ha1.out], by rw [ha2.out], hB⟩
        case measure => simp [intOf]; omega
      · have e0 : ((i : Int) != (j : Int)) = true := by simp; omega
        obtain ⟨b2, off2, he, ci⟩ := hsh.out i hik
        injection he with he
        injection he with e1 e2
        subst e1 e2
        have hw3 := byteW i (by omega)
        have hi256 : i < 256 := by omega
        have hj256 : j < 256 := by omega
        have hx1 := u8_xor_nat x i hx hi256
        have hx2 := u8_xor_nat j i hj256 hi256
        have hl1 := hul.out x i
        have hl2 := hul.out j i
        have hn1 := Lib.hid (hun.out x i hij)
        have hn2 := Lib.hid (hun.out j i hij)
        have hxl1 : x ^^^ i < 256 := xor_lt256 hx hi256
        have hxl2 : j ^^^ i < 256 := xor_lt256 hj256 hi256
        have ci : wr.cell? ⟨b, off + i, none⟩ = some (.int .i64 (i : Nat)) := (hB.out.cell (cell_block_lt ci)).trans ci
        have cj : wr.cell? ⟨b, off + j, none⟩ = some (.int .i64 (j : Nat)) := (hB.out.cell (cell_block_lt cjh.out)).trans cjh.out
        have cih := Lib.hid ci
        have cjh2 := Lib.hid cj
        obtain ⟨u1, hu1⟩ : ∃ u, upP j x i = u := ⟨_, rfl⟩
        obtain ⟨u2, hu2⟩ : ∃ u, upP j j i = u := ⟨_, rfl⟩
        obtain ⟨y1, hy1⟩ : ∃ u, x ^^^ i = u := ⟨_, rfl⟩
        obtain ⟨y2, hy2⟩ : ∃ u, j ^^^ i = u := ⟨_, rfl⟩
        rw [hu1] at hl1 hn1 ⊢
        rw [hu2] at hl2 hn2 ⊢
        rw [hy1] at hx1 hxl1 hn1
        rw [hy2] at hx2 hxl2 hn2
        clear hu1 hu2 hy1 hy2 cj
        go_wp2_with fail
        refine (ref_mul u1 y1 wr hl1 hxl1).mono ?_
        rintro e w' ⟨rfl, rfl⟩
        clear ci
        go_upto_region 7 with (fail)
        have hBd : Hid (Below w.heap.size w wr.drew) := hide (below_drewN hB.out 1)
        refine h_begin 14 (fun y : World => y.cell? ⟨b, off + i, none⟩ = some (.int .i64 (i : Nat)) ∧ y.cell? ⟨b, off + j, none⟩ = some (.int .i64 (j : Nat))) rfl (by kernel_rfl) ⟨cih.out, cjh2.out⟩ ?_
        have hHeld : (fun y : World => y.cell? ⟨b, off + i, none⟩ = some (.int .i64 (i : Nat)) ∧ y.cell? ⟨b, off + j, none⟩ = some (.int .i64 (j : Nat))) wr.drew := ⟨cih.out, cjh2.out⟩
        first
          | (refine h_run (i := 0) (v := ?_) hHeld rfl (by kernel_rfl) (by kernel_rfl) (by kernel_rfl) ?_ ?_ ?_
             rotate_left
             · rfl
             · (intro x hSx; (try dsimp only at hSx); go_simp <;> with_reducible rfl)
             simp only [Act.put, List.setIfInBounds_toArray, List.set_cons_zero, List.set_cons_succ])
          | (refine h_skip (i := 0) hHeld rfl (by kernel_rfl) (by kernel_rfl) (by kernel_rfl) ?_ ?_
             · rfl
             simp only [Act.put, List.setIfInBounds_toArray, List.set_cons_zero, List.set_cons_succ])
        first
          | (refine h_run (i := 1) (v := ?_) hHeld rfl (by kernel_rfl) (by kernel_rfl) (by kernel_rfl) ?_ ?_ ?_
             rotate_left
             · rfl
             · (intro x hSx; (try dsimp only at hSx); go_simp <;> with_reducible rfl)
             simp only [Act.put, List.setIfInBounds_toArray, List.set_cons_zero, List.set_cons_succ])
          | (refine h_skip (i := 1) hHeld rfl (by kernel_rfl) (by kernel_rfl) (by kernel_rfl) ?_ ?_
             · rfl
             simp only [Act.put, List.setIfInBounds_toArray, List.set_cons_zero, List.set_cons_succ])
        first
          | (refine h_run (i := 2) (v := ?_) hHeld rfl (by kernel_rfl) (by kernel_rfl) (by kernel_rfl) ?_ ?_ ?_
             rotate_left
             · rfl
             · (intro x hSx; (try dsimp only at hSx); go_simp <;> with_reducible rfl)
             simp only [Act.put, List.setIfInBounds_toArray, List.set_cons_zero, List.set_cons_succ])
          | (refine h_skip (i := 2) hHeld rfl (by kernel_rfl) (by kernel_rfl) (by kernel_rfl) ?_ ?_
             · rfl
             simp only [Act.put, List.setIfInBounds_toArray, List.set_cons_zero, List.set_cons_succ])
        first
          | (refine h_run (i := 3) (v := ?_) hHeld rfl (by kernel_rfl) (by kernel_rfl) (by kernel_rfl) ?_ ?_ ?_
             rotate_left
             · rfl
             · (intro x hSx; (try dsimp only at hSx); go_simp <;> with_reducible rfl)
             simp only [Act.put, List.setIfInBounds_toArray, List.set_cons_zero, List.set_cons_succ])
          | (refine h_skip (i := 3) hHeld rfl (by kernel_rfl) (by kernel_rfl) (by kernel_rfl) ?_ ?_
             · rfl
             simp only [Act.put, List.setIfInBounds_toArray, List.set_cons_zero, List.set_cons_succ])
        first
          | (refine h_run (i := 4) (v := ?_) hHeld rfl (by kernel_rfl) (by kernel_rfl) (by kernel_rfl) ?_ ?_ ?_
             rotate_left
             · rfl
             · (intro x hSx; (try dsimp only at hSx); go_simp <;> with_reducible rfl)
             simp only [Act.put, List.setIfInBounds_toArray, List.set_cons_zero, List.set_cons_succ])
          | (refine h_skip (i := 4) hHeld rfl (by kernel_rfl) (by kernel_rfl) (by kernel_rfl) ?_ ?_
             · rfl
             simp only [Act.put, List.setIfInBounds_toArray, List.set_cons_zero, List.set_cons_succ])
        first
          | (refine h_run (i := 5) (v := ?_) hHeld rfl (by kernel_rfl) (by kernel_rfl) (by kernel_rfl) ?_ ?_ ?_
             rotate_left
             · rfl
             · (intro x hSx; (try dsimp only at hSx); go_simp <;> with_reducible rfl)
             simp only [Act.put, List.setIfInBounds_toArray, List.set_cons_zero, List.set_cons_succ])
          | (refine h_skip (i := 5) hHeld rfl (by kernel_rfl) (by kernel_rfl) (by kernel_rfl) ?_ ?_
             · rfl
             simp only [Act.put, List.setIfInBounds_toArray, List.set_cons_zero, List.set_cons_succ])
        first
          | (refine h_run (i := 6) (v := ?_) hHeld rfl (by kernel_rfl) (by kernel_rfl) (by kernel_rfl) ?_ ?_ ?_
             rotate_left
             · rfl
             · (intro x hSx; (try dsimp only at hSx); go_simp <;> with_reducible rfl)
             simp only [Act.put, List.setIfInBounds_toArray, List.set_cons_zero, List.set_cons_succ])
          | (refine h_skip (i := 6) hHeld rfl (by kernel_rfl) (by kernel_rfl) (by kernel_rfl) ?_ ?_
             · rfl
             simp only [Act.put, List.setIfInBounds_toArray, List.set_cons_zero, List.set_cons_succ])
        first
          | (refine h_run (i := 7) (v := ?_) hHeld rfl (by kernel_rfl) (by kernel_rfl) (by kernel_rfl) ?_ ?_ ?_
             rotate_left
             · rfl
             · (intro x hSx; (try dsimp only at hSx); go_simp <;> with_reducible rfl)
             simp only [Act.put, List.setIfInBounds_toArray, List.set_cons_zero, List.set_cons_succ])
          | (refine h_skip (i := 7) hHeld rfl (by kernel_rfl) (by kernel_rfl) (by kernel_rfl) ?_ ?_
             · rfl
             simp only [Act.put, List.setIfInBounds_toArray, List.set_cons_zero, List.set_cons_succ])
        first
          | (refine h_run (i := 8) (v := ?_) hHeld rfl (by kernel_rfl) (by kernel_rfl) (by kernel_rfl) ?_ ?_ ?_
             rotate_left
             · rfl
             · (intro x hSx; (try dsimp only at hSx); go_simp <;> with_reducible rfl)
             simp only [Act.put, List.setIfInBounds_toArray, List.set_cons_zero, List.set_cons_succ])
          | (refine h_skip (i := 8) hHeld rfl (by kernel_rfl) (by kernel_rfl) (by kernel_rfl) ?_ ?_
             · rfl
             simp only [Act.put, List.setIfInBounds_toArray, List.set_cons_zero, List.set_cons_succ])
        first
          | (refine h_run (i := 9) (v := ?_) hHeld rfl (by kernel_rfl) (by kernel_rfl) (by kernel_rfl) ?_ ?_ ?_
             rotate_left
             · rfl
             · (intro x hSx; (try dsimp only at hSx); go_simp <;> with_reducible rfl)
             simp only [Act.put, List.setIfInBounds_toArray, List.set_cons_zero, List.set_cons_succ])
          | (refine h_skip (i := 9) hHeld rfl (by kernel_rfl) (by kernel_rfl) (by kernel_rfl) ?_ ?_
             · rfl
             simp only [Act.put, List.setIfInBounds_toArray, List.set_cons_zero, List.set_cons_succ])
        first
          | (refine h_run (i := 10) (v := ?_) hHeld rfl (by kernel_rfl) (by kernel_rfl) (by kernel_rfl) ?_ ?_ ?_
             rotate_left
             · rfl
             · (intro x hSx; (try dsimp only at hSx); go_simp <;> with_reducible rfl)
             simp only [Act.put, List.setIfInBounds_toArray, List.set_cons_zero, List.set_cons_succ])
          | (refine h_skip (i := 10) hHeld rfl (by kernel_rfl) (by kernel_rfl) (by kernel_rfl) ?_ ?_
             · rfl
             simp only [Act.put, List.setIfInBounds_toArray, List.set_cons_zero, List.set_cons_succ])
        first
          | (refine h_run (i := 11) (v := ?_) hHeld rfl (by kernel_rfl) (by kernel_rfl) (by kernel_rfl) ?_ ?_ ?_
             rotate_left
             · rfl
             · (intro x hSx; (try dsimp only at hSx); go_simp <;> with_reducible rfl)
             simp only [Act.put, List.setIfInBounds_toArray, List.set_cons_zero, List.set_cons_succ])
          | (refine h_skip (i := 11) hHeld rfl (by kernel_rfl) (by kernel_rfl) (by kernel_rfl) ?_ ?_
             · rfl
             simp only [Act.put, List.setIfInBounds_toArray, List.set_cons_zero, List.set_cons_succ])
        clear hHeld
        refine h_call (i := 12) (fun y : World => y.cell? ⟨b, off + i, none⟩ = some (.int .i64 (i : Nat)) ∧ y.cell? ⟨b, off + j, none⟩ = some (.int .i64 (j : Nat))) (fun _ h => h) (ref_mul u2 y2 wr.drew hl2 hxl2) rfl (by kernel_rfl) rfl ?_ ?_
        · go_simp <;> with_reducible rfl
        rintro e w' ⟨rfl, rfl⟩
        have hHeld : (fun y : World => y.cell? ⟨b, off + i, none⟩ = some (.int .i64 (i : Nat)) ∧ y.cell? ⟨b, off + j, none⟩ = some (.int .i64 (j : Nat))) wr.drew := ⟨cih.out, cjh2.out⟩
        refine ⟨_, rfl, hHeld, ?_⟩
        first
          | (refine h_run (i := 13) (v := ?_) hHeld rfl (by kernel_rfl) (by kernel_rfl) (by kernel_rfl) ?_ ?_ ?_
             rotate_left
             · rfl
             · (intro x hSx; (try dsimp only at hSx); go_simp <;> with_reducible rfl)
             simp only [Act.put, List.setIfInBounds_toArray, List.set_cons_zero, List.set_cons_succ])
          | (refine h_skip (i := 13) hHeld rfl (by kernel_rfl) (by kernel_rfl) (by kernel_rfl) ?_ ?_
             · rfl
             simp only [Act.put, List.setIfInBounds_toArray, List.set_cons_zero, List.set_cons_succ])
        refine h_done (by kernel_rfl) ?_
        clear hHeld
        go_wp2_with fail
        go_roundw
        case rel => exact ⟨i + 1, by omega, by go_num, by rw [hn1.out], by rw [hn2.out], hBd⟩
        case measure => simp [intOf]; omega
    · obtain rfl : i = k := by omega
      have i1 : decide ((i : Int) < (i : Int)) = false := by simp
      have hl1 := hul.out x i
      have hl2 := hul.out j i
      obtain ⟨u1, hu1⟩ : ∃ u, upP j x i = u := ⟨_, rfl⟩
      obtain ⟨u2, hu2⟩ : ∃ u, upP j j i = u := ⟨_, rfl⟩
      rw [hu1] at hl1 ⊢
      rw [hu2] at hl2 ⊢
      have hu1h := Lib.hid hu1
      have hu2h := Lib.hid hu2
      clear hu1 hu2
      go_wp2_with fail
      refine (ref_inv u2 wr hl2).mono ?_
      rintro e w' ⟨rfl, rfl⟩
      have hil := rinv_lt u2
      go_wp2_with fail
      refine (ref_mul u1 (rinv u2) wr hl1 hil).mono ?_
      rintro e w' ⟨rfl, rfl⟩
      go_wp2_with fail
      go_ret
      exact ⟨by rw [hu1h.out, hu2h.out]; rfl, hB.out⟩
/-- At's row: the columns ahead of j are added, of the column j the first t places -/
def atF (k x : Nat) (V : Nat → Nat → Nat) (j t i : Nat) : Nat := if i < t then dtF (fun _ c => rsF k x c) V 0 i (j + 1) else dtF (fun _ c => rsF k x c) V 0 i j
set_option maxRecDepth 100000 in
theorem at_lt (k x : Nat) (V : Nat → Nat → Nat) (j t i : Nat) : atF k x V j t i < 256 := by unfold atF; split <;> exact dt_lt _ _ _ _ _
set_option maxRecDepth 100000 in
theorem at_row (k x : Nat) (V : Nat → Nat → Nat) (j n i : Nat) (hi : i < n) : atF k x V j n i = atF k x V (j + 1) 0 i := by unfold atF; rw [if_pos hi, if_neg (by omega)]
set_option maxRecDepth 100000 in
theorem at_next (k x : Nat) (V : Nat → Nat → Nat) (j t i : Nat) : (if i = t then atF k x V j t t ^^^ rmul (rsF k x j) (V j t) else atF k x V j t i) = atF k x V j (t + 1) i := by
  unfold atF
  by_cases h : i = t
  · subst h
    rw [if_pos rfl, if_neg (by omega), if_pos (by omega), dt_next]
  · rw [if_neg h]
    by_cases h2 : i < t
    · rw [if_pos h2, if_pos (by omega)]
    · rw [if_neg h2, if_neg (by omega)]
attribute [local irreducible] atF
set_option maxRecDepth 100000 in
set_option maxHeartbeats 4000000 in
theorem r_at (k n x : Nat) (s sd : Option Addr) (cap capd : Nat) (V : Nat → Nat → Nat) (w : World) (hs : ZAt w .i64 s k (fun i => (i : Nat))) (hd : RowsAt w sd k n V) (hV : Bd2 V) (h0 : 1 ≤ k) (hk : k ≤ 255) (hx : x < 256) (hn : n ≤ 1200) :
    Calls Try.prog 49 #[.slice s k cap, .slice sd k capd, .int .i64 (x : Nat)] w (SlPost w n (fun t => dtF (fun _ c => rsF k x c) V 0 t k)) := by
  have kwt := Lib.hid (fun j y (hy : ZAt y .i64 s k (fun i => (i : Nat))) (hj : j < k) => r_weight k j x s cap y hy hk hj hx)
  have hwt : Hid (∀ j, j < k → wtP k j x = rsF k x j) := hide (fun j hj => (rs_weight k x j hk hx hj).symm)
  have hwl : Hid (∀ j, rsF k x j < 256) := hide (fun j => rs_bd k x j)
  have hsh := Lib.hid hs
  have hVh := Lib.hid hV
  have hdh : Hid (∀ i, i < k → ∃ b off a kk, sd = some ⟨b, off, none⟩ ∧ w.cell? ⟨b, off + i, none⟩ = some (.slice a n kk) ∧ By w a n (V i)) := hide (by have h := hd; unfold RowsAt at h; exact h)
  have hmk : ∀ y : World, (Instr.makeSlice 58 (.int .i64 (n : Int)) (.int .i64 (n : Int))).run Try.prog y = .ok (.slice (some ⟨y.heap.size, 0, none⟩) n n) (y.alloc (.cells (madeCells #[.int .u8 0] n) 5)) := fun y => make_row (P := Try.prog) Try.underlying58 info8 n (by omega) (by decide) y
  obtain ⟨bs, os, a0, k0, rfl, c00, _⟩ := hdh.out 0 (by omega)
  have c0 : w.cell? ⟨bs, os, none⟩ = some (.slice a0 n k0) := c00
  clear c00
  clear hs hd hV
  go_enter Try.func49, Try.ntmps49
  go_upto_region 2 with (fail)
  have hst := Lib.hid (brow_made w n)
  have hB := Lib.hid (below_one w (.cells (madeCells #[.int .u8 0] n) 5))
  obtain ⟨g, hg⟩ : ∃ g, w.heap.size = g := ⟨_, rfl⟩
  rw [hg] at hst ⊢
  have hgw : w.heap.size ≤ g := by omega
  clear hmk hg c0
  generalize World.alloc w _ = W at *
  go_upto_region 3 with (fail)
  go_loopw [8] (fun v8 wr => ∃ j : Nat, j ≤ k ∧ v8 = .int .i64 (j : Nat) ∧ Hid (BRow wr g n (atF k x V j 0)) ∧ Hid (Below w.heap.size w wr)) (fun v8 _ => k - (intOf v8).toNat)
  case atStart => exact ⟨0, by omega, rfl, hide (hst.out.congr (fun i hi => by unfold atF; rw [if_neg (by omega), dt_zero])), hB⟩
  case round =>
    obtain ⟨j, hj, rfl, hr, hB1⟩ := hrel
    clear hst
    by_cases hjk : j < k
    · have i1 : (j : Int) < (k : Int) := by omega
      go_wp2_with fail
      refine (kwt.out j wr (fun i hi => by
        obtain ⟨b, off, h1, h2⟩ := hsh.out i hi
        exact ⟨b, off, h1, (hB1.out.cell (cell_block_lt h2)).trans h2⟩) hjk).mono ?_
      rintro e w2 ⟨rfl, hb2⟩
      rw [hwt.out j hjk]
      have hr2 := Lib.hid (hr.out.below hb2 hr.out.lt)
      have hB2 := Lib.hid (hB1.out.trans (hb2.mono hB1.out.size))
      obtain ⟨b', off', a, kk, he, cr, hby⟩ := hdh.out j hjk
      injection he with he
      injection he with e1 e2
      subst e1 e2
      have crh := Lib.hid cr
      have hbyh := Lib.hid hby
      have hwlj := hwl.out j
      have hnx := Lib.hid (fun t i => at_next k x V j t i)
      have hrow := Lib.hid (fun i hi => at_row k x V j n i hi)
      obtain ⟨ω, hω⟩ : ∃ ω, rsF k x j = ω := ⟨_, rfl⟩
      rw [hω] at hwlj hnx ⊢
      clear hb2 hω cr hby
      go_upto_region 7 with (fail)
      go_loopw [10] (fun v10 wr => ∃ t : Nat, t ≤ n ∧ v10 = .int .i64 (t : Nat) ∧ Hid (BRow wr g n (atF k x V j t)) ∧ Hid (Below w.heap.size w wr)) (fun v10 _ => n - (intOf v10).toNat)
      case atStart => exact ⟨0, by omega, rfl, hr2, hB2⟩
      case round =>
        obtain ⟨t, ht, rfl, hr3, hB3⟩ := hrel
        by_cases htn : t < n
        · have i2 : (t : Int) < (n : Int) := by omega
          obtain ⟨ba, oa, rfl, ca⟩ := hbyh.out.get htn
          have hal : ba < w.heap.size := cell_block_lt ca
          have hv := hVh.out j t
          have hdl := at_lt k x V j t t
          have hnt := Lib.hid (hnx.out t)
          have cg := hr3.out.cl t htn
          have fg := hr3.out.fz t
          obtain ⟨d, hde⟩ : ∃ d, atF k x V j t t = d := ⟨_, rfl⟩
          have cg2 : wr.cell? ⟨g, t, none⟩ = some (.int .u8 (d : Nat)) := by rw [cg, hde]
          rw [hde] at hdl hnt
          have hxo := u8_xor_nat d (rmul ω (V j t)) hdl (rmul_lt _ _)
          have hHeld0 : (fun y : World => y.cell? ⟨bs, os + j, none⟩ = some (.slice (some ⟨ba, oa, none⟩) n kk) ∧ y.cell? ⟨ba, oa + t, none⟩ = some (.int .u8 (V j t : Nat))) wr := ⟨(hB3.out.cell (cell_block_lt crh.out)).trans crh.out, (hB3.out.cell (p := ⟨ba, oa + t, none⟩) hal).trans ca⟩
          have hgh := Lib.hid (show wr.cell? ⟨g, t, none⟩ = some (.int .u8 (d : Nat)) ∧ wr.frozen? ⟨g, t, none⟩ = false from ⟨cg2, fg⟩)
          have hbsl : bs < w.heap.size := cell_block_lt crh.out
          have hheldh := Lib.hid hHeld0
          clear cg cg2 fg hde ca hHeld0
          go_upto_region 9 with (fail)
          refine h_begin 18 (fun y : World => y.cell? ⟨bs, os + j, none⟩ = some (.slice (some ⟨ba, oa, none⟩) n kk) ∧ y.cell? ⟨ba, oa + t, none⟩ = some (.int .u8 (V j t : Nat))) rfl (by kernel_rfl) hheldh.out ?_
          have hHeld : (fun y : World => y.cell? ⟨bs, os + j, none⟩ = some (.slice (some ⟨ba, oa, none⟩) n kk) ∧ y.cell? ⟨ba, oa + t, none⟩ = some (.int .u8 (V j t : Nat))) wr.drew := hheldh.out
          first
            | (refine h_run (i := 0) (v := ?_) hHeld rfl (by kernel_rfl) (by kernel_rfl) (by kernel_rfl) ?_ ?_ ?_
               rotate_left
               · rfl
               · (intro x hSx; (try dsimp only at hSx); go_simp <;> with_reducible rfl)
               simp only [Act.put, List.setIfInBounds_toArray, List.set_cons_zero, List.set_cons_succ])
            | (refine h_skip (i := 0) hHeld rfl (by kernel_rfl) (by kernel_rfl) (by kernel_rfl) ?_ ?_
               · rfl
               simp only [Act.put, List.setIfInBounds_toArray, List.set_cons_zero, List.set_cons_succ])
          first
            | (refine h_run (i := 1) (v := ?_) hHeld rfl (by kernel_rfl) (by kernel_rfl) (by kernel_rfl) ?_ ?_ ?_
               rotate_left
               · rfl
               · (intro x hSx; (try dsimp only at hSx); go_simp <;> with_reducible rfl)
               simp only [Act.put, List.setIfInBounds_toArray, List.set_cons_zero, List.set_cons_succ])
            | (refine h_skip (i := 1) hHeld rfl (by kernel_rfl) (by kernel_rfl) (by kernel_rfl) ?_ ?_
               · rfl
               simp only [Act.put, List.setIfInBounds_toArray, List.set_cons_zero, List.set_cons_succ])
          first
            | (refine h_run (i := 2) (v := ?_) hHeld rfl (by kernel_rfl) (by kernel_rfl) (by kernel_rfl) ?_ ?_ ?_
               rotate_left
               · rfl
               · (intro x hSx; (try dsimp only at hSx); go_simp <;> with_reducible rfl)
               simp only [Act.put, List.setIfInBounds_toArray, List.set_cons_zero, List.set_cons_succ])
            | (refine h_skip (i := 2) hHeld rfl (by kernel_rfl) (by kernel_rfl) (by kernel_rfl) ?_ ?_
               · rfl
               simp only [Act.put, List.setIfInBounds_toArray, List.set_cons_zero, List.set_cons_succ])
          first
            | (refine h_run (i := 3) (v := ?_) hHeld rfl (by kernel_rfl) (by kernel_rfl) (by kernel_rfl) ?_ ?_ ?_
               rotate_left
               · rfl
               · (intro x hSx; (try dsimp only at hSx); go_simp <;> with_reducible rfl)
               simp only [Act.put, List.setIfInBounds_toArray, List.set_cons_zero, List.set_cons_succ])
            | (refine h_skip (i := 3) hHeld rfl (by kernel_rfl) (by kernel_rfl) (by kernel_rfl) ?_ ?_
               · rfl
               simp only [Act.put, List.setIfInBounds_toArray, List.set_cons_zero, List.set_cons_succ])
          first
            | (refine h_run (i := 4) (v := ?_) hHeld rfl (by kernel_rfl) (by kernel_rfl) (by kernel_rfl) ?_ ?_ ?_
               rotate_left
               · rfl
               · (intro x hSx; (try dsimp only at hSx); go_simp <;> with_reducible rfl)
               simp only [Act.put, List.setIfInBounds_toArray, List.set_cons_zero, List.set_cons_succ])
            | (refine h_skip (i := 4) hHeld rfl (by kernel_rfl) (by kernel_rfl) (by kernel_rfl) ?_ ?_
               · rfl
               simp only [Act.put, List.setIfInBounds_toArray, List.set_cons_zero, List.set_cons_succ])
          first
            | (refine h_run (i := 6) (v := ?_) hHeld rfl (by kernel_rfl) (by kernel_rfl) (by kernel_rfl) ?_ ?_ ?_
               rotate_left
               · rfl
               · (intro x hSx; (try dsimp only at hSx); go_simp <;> with_reducible rfl)
               simp only [Act.put, List.setIfInBounds_toArray, List.set_cons_zero, List.set_cons_succ])
            | (refine h_skip (i := 6) hHeld rfl (by kernel_rfl) (by kernel_rfl) (by kernel_rfl) ?_ ?_
               · rfl
               simp only [Act.put, List.setIfInBounds_toArray, List.set_cons_zero, List.set_cons_succ])
          first
            | (refine h_run (i := 7) (v := ?_) hHeld rfl (by kernel_rfl) (by kernel_rfl) (by kernel_rfl) ?_ ?_ ?_
               rotate_left
               · rfl
               · (intro x hSx; (try dsimp only at hSx); go_simp <;> with_reducible rfl)
               simp only [Act.put, List.setIfInBounds_toArray, List.set_cons_zero, List.set_cons_succ])
            | (refine h_skip (i := 7) hHeld rfl (by kernel_rfl) (by kernel_rfl) (by kernel_rfl) ?_ ?_
               · rfl
               simp only [Act.put, List.setIfInBounds_toArray, List.set_cons_zero, List.set_cons_succ])
          first
            | (refine h_run (i := 8) (v := ?_) hHeld rfl (by kernel_rfl) (by kernel_rfl) (by kernel_rfl) ?_ ?_ ?_
               rotate_left
               · rfl
               · (intro x hSx; (try dsimp only at hSx); go_simp <;> with_reducible rfl)
               simp only [Act.put, List.setIfInBounds_toArray, List.set_cons_zero, List.set_cons_succ])
            | (refine h_skip (i := 8) hHeld rfl (by kernel_rfl) (by kernel_rfl) (by kernel_rfl) ?_ ?_
               · rfl
               simp only [Act.put, List.setIfInBounds_toArray, List.set_cons_zero, List.set_cons_succ])
          first
            | (refine h_run (i := 9) (v := ?_) hHeld rfl (by kernel_rfl) (by kernel_rfl) (by kernel_rfl) ?_ ?_ ?_
               rotate_left
               · rfl
               · (intro x hSx; (try dsimp only at hSx); go_simp <;> with_reducible rfl)
               simp only [Act.put, List.setIfInBounds_toArray, List.set_cons_zero, List.set_cons_succ])
            | (refine h_skip (i := 9) hHeld rfl (by kernel_rfl) (by kernel_rfl) (by kernel_rfl) ?_ ?_
               · rfl
               simp only [Act.put, List.setIfInBounds_toArray, List.set_cons_zero, List.set_cons_succ])
          first
            | (refine h_run (i := 10) (v := ?_) hHeld rfl (by kernel_rfl) (by kernel_rfl) (by kernel_rfl) ?_ ?_ ?_
               rotate_left
               · rfl
               · (intro x hSx; (try dsimp only at hSx); go_simp <;> with_reducible rfl)
               simp only [Act.put, List.setIfInBounds_toArray, List.set_cons_zero, List.set_cons_succ])
            | (refine h_skip (i := 10) hHeld rfl (by kernel_rfl) (by kernel_rfl) (by kernel_rfl) ?_ ?_
               · rfl
               simp only [Act.put, List.setIfInBounds_toArray, List.set_cons_zero, List.set_cons_succ])
          first
            | (refine h_run (i := 11) (v := ?_) hHeld rfl (by kernel_rfl) (by kernel_rfl) (by kernel_rfl) ?_ ?_ ?_
               rotate_left
               · rfl
               · (intro x hSx; (try dsimp only at hSx); go_simp <;> with_reducible rfl)
               simp only [Act.put, List.setIfInBounds_toArray, List.set_cons_zero, List.set_cons_succ])
            | (refine h_skip (i := 11) hHeld rfl (by kernel_rfl) (by kernel_rfl) (by kernel_rfl) ?_ ?_
               · rfl
               simp only [Act.put, List.setIfInBounds_toArray, List.set_cons_zero, List.set_cons_succ])
          first
            | (refine h_run (i := 12) (v := ?_) hHeld rfl (by kernel_rfl) (by kernel_rfl) (by kernel_rfl) ?_ ?_ ?_
               rotate_left
               · rfl
               · (intro x hSx; (try dsimp only at hSx); go_simp <;> with_reducible rfl)
               simp only [Act.put, List.setIfInBounds_toArray, List.set_cons_zero, List.set_cons_succ])
            | (refine h_skip (i := 12) hHeld rfl (by kernel_rfl) (by kernel_rfl) (by kernel_rfl) ?_ ?_
               · rfl
               simp only [Act.put, List.setIfInBounds_toArray, List.set_cons_zero, List.set_cons_succ])
          first
            | (refine h_run (i := 13) (v := ?_) hHeld rfl (by kernel_rfl) (by kernel_rfl) (by kernel_rfl) ?_ ?_ ?_
               rotate_left
               · rfl
               · (intro x hSx; (try dsimp only at hSx); go_simp <;> with_reducible rfl)
               simp only [Act.put, List.setIfInBounds_toArray, List.set_cons_zero, List.set_cons_succ])
            | (refine h_skip (i := 13) hHeld rfl (by kernel_rfl) (by kernel_rfl) (by kernel_rfl) ?_ ?_
               · rfl
               simp only [Act.put, List.setIfInBounds_toArray, List.set_cons_zero, List.set_cons_succ])
          clear hHeld
          have hr4 : Hid (BRow (wr.drew.setCell ⟨g, t, none⟩ (.int .u8 ((d ^^^ rmul ω (V j t) : Nat) : Int))) g n (atF k x V j (t + 1))) := hide ((BRow.set (hr3.out.stay (w' := wr.drew) rfl) t _).congr (fun i hi => hnt.out i))
          have hB4 : Hid (Below w.heap.size w (wr.drew.setCell ⟨g, t, none⟩ (.int .u8 ((d ^^^ rmul ω (V j t) : Nat) : Int)))) := hide ((below_drewN hB3.out 1).setCell hgw _)
          have hS4 : Hid ((fun y : World => y.cell? ⟨bs, os + j, none⟩ = some (.slice (some ⟨ba, oa, none⟩) n kk) ∧ y.cell? ⟨ba, oa + t, none⟩ = some (.int .u8 (V j t : Nat))) (wr.drew.setCell ⟨g, t, none⟩ (.int .u8 ((d ^^^ rmul ω (V j t) : Nat) : Int)))) := hide ⟨(hB4.out.cell (p := ⟨bs, os + j, none⟩) hbsl).trans crh.out, (hB4.out.cell (p := ⟨ba, oa + t, none⟩) hal).trans (((below_drewN hB3.out 1).cell (p := ⟨ba, oa + t, none⟩) hal).symm.trans hheldh.out.2)⟩
          have cg : wr.drew.cell? ⟨g, t, none⟩ = some (.int .u8 (d : Nat)) := hgh.out.1
          have fg : wr.drew.frozen? ⟨g, t, none⟩ = false := hgh.out.2
          refine h_pairM (i := 5) (j := 14) (v := .int .u8 (d : Nat)) (w1 := wr.drew) (ref_mul ω (V j t) wr.drew hwlj hv) rfl rfl (by kernel_rfl) rfl rfl ?_ ?_ hheldh.out ?_ ?_
          · go_simp <;> with_reducible rfl
          · go_simp <;> with_reducible rfl
          · simp only [Act.put, List.setIfInBounds_toArray, List.set_cons_zero, List.set_cons_succ]
            refine h_call (i := 14) (fun y : World => y.cell? ⟨bs, os + j, none⟩ = some (.slice (some ⟨ba, oa, none⟩) n kk) ∧ y.cell? ⟨ba, oa + t, none⟩ = some (.int .u8 (V j t : Nat))) (fun _ h => h) (ref_mul ω (V j t) wr.drew hwlj hv) rfl (by kernel_rfl) rfl ?_ ?_
            · go_simp <;> with_reducible rfl
            rintro e w' ⟨rfl, rfl⟩
            have hHeld : (fun y : World => y.cell? ⟨bs, os + j, none⟩ = some (.slice (some ⟨ba, oa, none⟩) n kk) ∧ y.cell? ⟨ba, oa + t, none⟩ = some (.int .u8 (V j t : Nat))) wr.drew := hheldh.out
            refine ⟨_, rfl, hHeld, ?_⟩
            simp only [Act.put, List.setIfInBounds_toArray, List.set_cons_zero, List.set_cons_succ]
            first
              | (refine h_run (i := 15) (v := ?_) hHeld rfl (by kernel_rfl) (by kernel_rfl) (by kernel_rfl) ?_ ?_ ?_
                 rotate_left
                 · rfl
                 · (intro x hSx; (try dsimp only at hSx); go_simp <;> with_reducible rfl)
                 simp only [Act.put, List.setIfInBounds_toArray, List.set_cons_zero, List.set_cons_succ])
              | (refine h_skip (i := 15) hHeld rfl (by kernel_rfl) (by kernel_rfl) (by kernel_rfl) ?_ ?_
                 · rfl
                 simp only [Act.put, List.setIfInBounds_toArray, List.set_cons_zero, List.set_cons_succ])
            first
              | (refine h_run (i := 16) (v := ?_) hHeld rfl (by kernel_rfl) (by kernel_rfl) (by kernel_rfl) ?_ ?_ ?_
                 rotate_left
                 · rfl
                 · (intro x hSx; (try dsimp only at hSx); go_simp <;> with_reducible rfl)
                 simp only [Act.put, List.setIfInBounds_toArray, List.set_cons_zero, List.set_cons_succ])
              | (refine h_skip (i := 16) hHeld rfl (by kernel_rfl) (by kernel_rfl) (by kernel_rfl) ?_ ?_
                 · rfl
                 simp only [Act.put, List.setIfInBounds_toArray, List.set_cons_zero, List.set_cons_succ])
            clear hHeld
            refine h_write (i := 17) (w' := wr.drew.setCell ⟨g, t, none⟩ (.int .u8 ((d ^^^ rmul ω (V j t) : Nat) : Int))) (fun y : World => y.cell? ⟨bs, os + j, none⟩ = some (.slice (some ⟨ba, oa, none⟩) n kk) ∧ y.cell? ⟨ba, oa + t, none⟩ = some (.int .u8 (V j t : Nat))) (fun _ h => h) rfl (by kernel_rfl) rfl ?_ hS4.out ?_
            · go_simp <;> with_reducible rfl
            refine h_done (by kernel_rfl) ?_
            clear cg fg
            go_wp2_with fail
            go_roundw
            case rel => exact ⟨t + 1, by omega, by go_num, hr4, hB4⟩
            case measure => simp [intOf]; omega
          · rintro e w' ⟨rfl, rfl⟩
            refine ⟨_, rfl, hheldh.out, ?_⟩
            simp only [Act.put, List.setIfInBounds_toArray, List.set_cons_zero, List.set_cons_succ]
            refine h_value (i := 5) (v := .int .u8 (d : Nat)) (w' := wr.drew) (fun y : World => y.cell? ⟨bs, os + j, none⟩ = some (.slice (some ⟨ba, oa, none⟩) n kk) ∧ y.cell? ⟨ba, oa + t, none⟩ = some (.int .u8 (V j t : Nat))) (fun _ h => h) rfl (by kernel_rfl) rfl ?_ hheldh.out ?_
            · go_simp <;> with_reducible rfl
            simp only [Act.put, List.setIfInBounds_toArray, List.set_cons_zero, List.set_cons_succ]
            have hHeld : (fun y : World => y.cell? ⟨bs, os + j, none⟩ = some (.slice (some ⟨ba, oa, none⟩) n kk) ∧ y.cell? ⟨ba, oa + t, none⟩ = some (.int .u8 (V j t : Nat))) wr.drew := hheldh.out
            first
              | (refine h_run (i := 15) (v := ?_) hHeld rfl (by kernel_rfl) (by kernel_rfl) (by kernel_rfl) ?_ ?_ ?_
                 rotate_left
                 · rfl
                 · (intro x hSx; (try dsimp only at hSx); go_simp <;> with_reducible rfl)
                 simp only [Act.put, List.setIfInBounds_toArray, List.set_cons_zero, List.set_cons_succ])
              | (refine h_skip (i := 15) hHeld rfl (by kernel_rfl) (by kernel_rfl) (by kernel_rfl) ?_ ?_
                 · rfl
                 simp only [Act.put, List.setIfInBounds_toArray, List.set_cons_zero, List.set_cons_succ])
            first
              | (refine h_run (i := 16) (v := ?_) hHeld rfl (by kernel_rfl) (by kernel_rfl) (by kernel_rfl) ?_ ?_ ?_
                 rotate_left
                 · rfl
                 · (intro x hSx; (try dsimp only at hSx); go_simp <;> with_reducible rfl)
                 simp only [Act.put, List.setIfInBounds_toArray, List.set_cons_zero, List.set_cons_succ])
              | (refine h_skip (i := 16) hHeld rfl (by kernel_rfl) (by kernel_rfl) (by kernel_rfl) ?_ ?_
                 · rfl
                 simp only [Act.put, List.setIfInBounds_toArray, List.set_cons_zero, List.set_cons_succ])
            clear hHeld
            refine h_write (i := 17) (w' := wr.drew.setCell ⟨g, t, none⟩ (.int .u8 ((d ^^^ rmul ω (V j t) : Nat) : Int))) (fun y : World => y.cell? ⟨bs, os + j, none⟩ = some (.slice (some ⟨ba, oa, none⟩) n kk) ∧ y.cell? ⟨ba, oa + t, none⟩ = some (.int .u8 (V j t : Nat))) (fun _ h => h) rfl (by kernel_rfl) rfl ?_ hS4.out ?_
            · go_simp <;> with_reducible rfl
            refine h_done (by kernel_rfl) ?_
            clear cg fg
            go_wp2_with fail
            go_roundw
            case rel => exact ⟨t + 1, by omega, by go_num, hr4, hB4⟩
            case measure => simp [intOf]; omega
        · obtain rfl : t = n := by omega
          have i2 : decide ((t : Int) < (t : Int)) = false := by simp
          go_wp2_with fail
          go_roundw
          case rel => exact ⟨j + 1, by omega, by go_num, hide (hr3.out.congr (fun i hi => hrow.out i hi)), hB3⟩
          case measure => simp [intOf]; omega
    · obtain rfl : j = k := by omega
      have i1 : decide ((j : Int) < (j : Int)) = false := by simp
      go_wp2_with fail
      go_ret
      exact ⟨_, rfl, ⟨g, n, rfl, hgw, hr.out.congr (fun i hi => by unfold atF; rw [if_neg (by omega)]), Nat.le_refl _, by unfold maxLen; omega⟩, hB1.out⟩
end Go.Proofs.Ytipfoclmdbbjiaa

/- The document's Encode. Conditions: what the rows read as. -/
namespace Go.Proofs.Ytipfoclmdbbjiaa
open Go.RowKit
set_option maxRecDepth 100000 in
theorem wpList_app_run {P : Program} {ops : Array Oper} {rest : List Oper} {o : Oper} {a : Act} {w w' : World} {Q : Exit → Act → World → Prop} {v xv r : Value} (hgd : o.guard = none) (s x : Operand) (t u : TypeId)
    (ho : o.op = .call { callee := .builtin .append, args := #[s, x], argTypes := #[t, u] }) (hs : a.eval s = v) (hx : a.eval x = xv)
    (hr : (Builtin.append_ #[t, u] o.type #[v, xv]).run P w = .ok r w') (h : wpList P ops Q rest (a.put o.dst r) w') : wpList P ops Q (o :: rest) a w :=
  wpList_plain hgd fun _ hK => by
    unfold Oper.wp
    rw [exec_appendM s x t u ho hs hx hr]
    exact hK _ _ h
set_option maxRecDepth 100000 in
/-- append(s, x), one row -/
theorem wpList_snocS {ops : Array Oper} {rest : List Oper} {o : Oper} {a : Act} {w : World} {Q : Exit → Act → World → Prop} (hgd : o.guard = none) (s x : Operand)
    (ho : o.op = .call { callee := .builtin .append, args := #[s, x], argTypes := #[42, 42] })
    (W : World) (v : Value) (base m n : Nat) (V : Nat → Nat → Nat) (u : Value) (hs : a.eval s = v) (hw : w = W.alloc (.cells #[u] 58)) (hx : a.eval x = .slice (some ⟨W.heap.size, 0, none⟩) 1 1)
    (hown : OwnS W base v m n V) (hu : SlR W base n (V m) u) (hm : m ≤ 900000) (hbase : base ≤ W.heap.size)
    (h : ∀ v' w', OwnS w' base v' (m + 1) n V → W.grownBy w' v.ownBlock → wpList Try.prog ops Q rest (a.put o.dst v') w') : wpList Try.prog ops Q (o :: rest) a w := by
  subst hw
  obtain ⟨v', w', hr, h1, h2⟩ := run_snocS W v base m n V u o.type hown hu hm hbase
  exact wpList_app_run hgd s x _ _ ho hs hx hr (h v' w' h1 h2)
set_option maxRecDepth 100000 in
/-- append(s, p...) of rows -/
theorem wpList_catS {ops : Array Oper} {rest : List Oper} {o : Oper} {a : Act} {w : World} {Q : Exit → Act → World → Prop} (hgd : o.guard = none) (s x : Operand)
    (ho : o.op = .call { callee := .builtin .append, args := #[s, x], argTypes := #[42, 42] })
    (v : Value) (base m n c cp : Nat) (V U : Nat → Nat → Nat) (q : Nat) (A' : Nat → Value) (hs : a.eval s = v) (hx : a.eval x = .slice (some ⟨q, 0, none⟩) c cp)
    (hown : OwnS w base v m n V) (hc : ∀ i, i < c → w.cell? ⟨q, i, none⟩ = some (A' i)) (hA : ∀ i, i < c → SlR w base n (U i) (A' i)) (hm : m + c ≤ 1000000) (hbase : base ≤ w.heap.size)
    (h : ∀ v' w', OwnS w' base v' (m + c) n (catV m V U) → w.grownBy w' v.ownBlock → wpList Try.prog ops Q rest (a.put o.dst v') w') : wpList Try.prog ops Q (o :: rest) a w := by
  obtain ⟨v', w', hr, h1, h2⟩ := run_catS w v base m n c cp V U q A' o.type hown hc hA hm hbase
  exact wpList_app_run hgd s x _ _ ho hs hx hr (h v' w' h1 h2)
set_option maxRecDepth 100000 in
/-- append(s, p...), p is nothing -/
theorem wpList_catS0 {ops : Array Oper} {rest : List Oper} {o : Oper} {a : Act} {w : World} {Q : Exit → Act → World → Prop} (hgd : o.guard = none) (s x : Operand)
    (ho : o.op = .call { callee := .builtin .append, args := #[s, x], argTypes := #[42, 42] })
    (v : Value) (base m n : Nat) (V : Nat → Nat → Nat) (hs : a.eval s = v) (hx : a.eval x = .slice none 0 0) (hown : OwnS w base v m n V)
    (h : wpList Try.prog ops Q rest (a.put o.dst v) w) : wpList Try.prog ops Q (o :: rest) a w := by
  obtain ⟨i0, hi, hz0, hz1, hz2⟩ := info_parts infoS
  obtain ⟨A, h1, h2⟩ := hown
  exact wpList_app_run hgd s x _ _ ho hs hx (run_append_owned_none (P := Try.prog) (w := w) base 42 o.type 58 i0 1 Try.underlying42 hi _ m _ h1) h
set_option maxRecDepth 100000 in
theorem dt_cong (F F' G : Nat → Nat → Nat) (i i' t : Nat) : ∀ n, (∀ m, m < n → F i m = F' i' m) → dtF F G i t n = dtF F' G i' t n
  | 0, _ => by rw [dt_zero, dt_zero]
  | n + 1, h => by rw [dt_next, dt_next, dt_cong F F' G i i' t n (fun m hm => h m (by omega)), h n (by omega)]
set_option maxRecDepth 100000 in
theorem pa_at (k : Nat) (V : Nat → Nat → Nat) (i t : Nat) : dtF (fun _ c => rsF k (k + i) c) V 0 t k = paF k V i t := by
  unfold paF mlF
  exact dt_cong _ _ _ _ _ _ _ (fun m _ => rfl)
def EncRPost (W : World) (m n : Nat) (U : Nat → Nat → Nat) (e : Ending) (W' : World) : Prop := ∃ v, e = .returned (.tuple #[v, .int .i64 0]) ∧ OwnS W' W.heap.size v m n U ∧ Below W.heap.size W W'
set_option maxRecDepth 100000 in
theorem SlR.form {w : World} {B n : Nat} {f : Nat → Nat} {u : Value} (h : SlR w B n f u) : ∃ g k, u = .slice (some ⟨g, 0, none⟩) n k := by
  obtain ⟨g, k, h, _⟩ := h
  exact ⟨g, k, h⟩
attribute [local irreducible] gexp gtbl glog rmul rinv rpow zexp mixF blk flF BRow MRow MAt By IsGf ivS rsF mlF RowsAt paF OwnS SlR dtF
set_option maxRecDepth 100000 in
set_option maxHeartbeats 4000000 in
theorem r_encode (k m n : Nat) (s : Option Addr) (cap : Nat) (V : Nat → Nat → Nat) (w : World) (hd : RowsAt w s k n V) (hV : Bd2 V) (h0 : 1 ≤ k) (hkm : k + m ≤ 255) (hn : n ≤ 1200) :
    Calls Try.prog 36 #[.int .i64 (k : Nat), .int .i64 (m : Nat), .slice s k cap] w (EncRPost w m n (paF k V)) := by
  have hdh := Lib.hid hd
  have klen := Lib.hid (fun y (h : RowsAt y s k n V) => r_length n k s cap y h.lens (by omega) (by omega) hn)
  have kfi := Lib.hid (fun y => r_first k y (by omega))
  have kat := Lib.hid (fun i y (s2 : Option Addr) (c2 : Nat) (hz : ZAt y .i64 s2 k (fun i => (i : Nat))) (hy : RowsAt y s k n V) (hi : i < m) => r_at k n (k + i) s2 s c2 cap V y hz hy hV h0 (by omega) (by omega) hn)
  have hpa := Lib.hid (pa_at k V)
  have t0 := bne_cast_f k
  clear hd hV
  go_enter Try.func36, Try.ntmps36
  go_wp2_with fail
  refine (klen.out w hdh.out).mono ?_
  rintro e w1 ⟨rfl, hb1⟩
  have hb1h := Lib.hid hb1
  clear hb1
  go_upto_region 7 with (fail)
  go_loopw [8, 9] (fun v8 v9 wr => ∃ i : Nat, i ≤ m ∧ v9 = .int .i64 (i : Nat) ∧ Hid (OwnS wr w.heap.size v8 i n (paF k V)) ∧ Hid (Below w.heap.size w wr)) (fun _ v9 _ => m - (intOf v9).toNat)
  case atStart => exact ⟨0, by omega, rfl, hide (OwnS.nil _ _ _ _), hb1h⟩
  case round =>
    obtain ⟨i, hi, rfl, ho, hB⟩ := hrel
    have hsz := hB.out.size
    by_cases him : i < m
    · have i1 : (i : Int) < (m : Int) := by omega
      go_wp2_with fail
      refine (kfi.out wr).mono ?_
      rintro e w2 ⟨s2, c2, rfl, z2, _, _, _, hb2⟩
      have z2h := Lib.hid z2
      have hB2 := Lib.hid (hB.out.trans (hb2.mono hsz))
      have ho2 := Lib.hid (ho.out.below hb2)
      clear z2 hb2
      go_wp2_with fail
      have hki := Lib.hid (show (k : Int) + (i : Int) = ((k + i : Nat) : Int) by omega)
      rw [hki.out]
      refine (kat.out i w2 s2 c2 z2h.out (hdh.out.below hB2.out) him).mono ?_
      rintro e w3 ⟨u, rfl, hu, hb3⟩
      have hB3 := Lib.hid (hB2.out.trans (hb3.mono hB2.out.size))
      have ho3 := Lib.hid (ho2.out.below hb3)
      have hu3 := Lib.hid ((hu.base hB2.out.size).congr (fun t _ => hpa.out i t))
      have hs3 := hB3.out.size
      clear hu hb3
      obtain ⟨gu, ku, rfl⟩ := hu3.out.form
      go_wp2_with (at_builtin; refine wpList_snocS rfl (.tmp 22) (.tmp 30) rfl w3 _ w.heap.size i n (paF k V) (.slice (some ⟨gu, 0, none⟩) n ku) rfl rfl rfl ho3.out hu3.out (by omega) hs3 ?_; intro v' w6 ho6 hgr; have hO6 := Lib.hid ho6; have hL6 := Lib.hid (below_grown hB3.out (Nat.le_refl _) hgr (fun b hb => (ho3.out.lt b hb).1)); clear ho6 hgr)
      go_roundw
      case rel => exact ⟨i + 1, by omega, by go_num, hO6, hL6⟩
      case measure => simp [intOf]; omega
    · obtain rfl : i = m := by omega
      have i1 : decide ((i : Int) < (i : Int)) = false := by simp
      go_wp2_with fail
      go_ret2
      exact ⟨_, rfl, ho.out, hB.out⟩
end Go.Proofs.Ytipfoclmdbbjiaa

/- A drawn region in which a cell is read, a call is made whose result goes into a fresh block, and both are wanted by what follows. Lemmas alone. -/
namespace Go.Proofs.Ytipfoclmdbbjiaa
open Go.RowKit
section
variable {P : Program} {ops : Array Oper} {Q : Exit → Act → World → Prop} {S : World → Prop}
set_option maxRecDepth 100000 in
theorem h_lcb {i j k : Nat} {oi oj ok : Oper} {f : FuncId} {args : Array Value} {fuel : Nat} {listed : Array Bool} {a : Act} {w : World} (v : Value) (ob : Value → Obj) (L : World → Prop) (R : Value → World → Prop) (l0 l1 : List Nat)
    (hw : L w) (hLS : ∀ x, L x → S x) (hLa : ∀ x u, L x → L (x.alloc (ob u)))
    (cj : Calls P f args w fun e x => ∃ u, e = .returned u ∧ L x ∧ R u x)
    (hi0 : opAt ops.toList i = some oi) (hj0 : opAt ops.toList j = some oj) (hk0 : opAt ops.toList k = some ok)
    (r0 : Region.ready .any ops listed = l0) (l0m : l0 ≠ [] ∧ ∀ m ∈ l0, m = i ∨ m = j)
    (ri : Region.ready .any ops (listed.setIfInBounds i true) = [j]) (rij : Region.ready .any ops ((listed.setIfInBounds i true).setIfInBounds j true) = [k])
    (rj : Region.ready .any ops (listed.setIfInBounds j true) = l1) (l1m : l1 ≠ [] ∧ ∀ m ∈ l1, m = i ∨ m = k)
    (rji : Region.ready .any ops ((listed.setIfInBounds j true).setIfInBounds i true) = [k]) (rjk : Region.ready .any ops ((listed.setIfInBounds j true).setIfInBounds k true) = [i])
    (wi : ∀ t, Region.wanted oi t = true) (wj : ∀ t, Region.wanted oj t = true) (wk : ∀ t, Region.wanted ok t = true)
    (vi : ∀ x, L x → (execOp a.eval oi).run P x = .ok (.value v) x) (vi1 : ∀ x u, L x → (execOp (a.put oj.dst u).eval oi).run P x = .ok (.value v) x)
    (vi2 : ∀ x u b, L x → (execOp ((a.put oj.dst u).put ok.dst b).eval oi).run P x = .ok (.value v) x)
    (ej : (execOp a.eval oj).run P w = .ok (.enter f args) w) (ej1 : (execOp (a.put oi.dst v).eval oj).run P w = .ok (.enter f args) w)
    (bk : ∀ x u, L x → R u x → (execOp ((a.put oi.dst v).put oj.dst u).eval ok).run P x = .ok (.value (.slice (some ⟨x.heap.size, 0, none⟩) 1 1)) (x.alloc (ob u)))
    (bk1 : ∀ x u, L x → R u x → (execOp (a.put oj.dst u).eval ok).run P x = .ok (.value (.slice (some ⟨x.heap.size, 0, none⟩) 1 1)) (x.alloc (ob u)))
    (bk2 : ∀ x u, L x → R u x → (execOp ((a.put oj.dst u).put oi.dst v).eval ok).run P x = .ok (.value (.slice (some ⟨x.heap.size, 0, none⟩) 1 1)) (x.alloc (ob u)))
    (hl1 : (((listed.setIfInBounds j true).setIfInBounds i true).setIfInBounds k true) = (((listed.setIfInBounds i true).setIfInBounds j true).setIfInBounds k true))
    (hl2 : (((listed.setIfInBounds j true).setIfInBounds k true).setIfInBounds i true) = (((listed.setIfInBounds i true).setIfInBounds j true).setIfInBounds k true))
    (ha1 : ∀ u b, ((a.put oj.dst u).put oi.dst v).put ok.dst b = ((a.put oi.dst v).put oj.dst u).put ok.dst b) (ha2 : ∀ u b, ((a.put oj.dst u).put ok.dst b).put oi.dst v = ((a.put oi.dst v).put oj.dst u).put ok.dst b)
    (h : ∀ x u, L x → R u x → wpAnyH P .any ops (NoPanic Q) S fuel (((listed.setIfInBounds i true).setIfInBounds j true).setIfInBounds k true) (((a.put oi.dst v).put oj.dst u).put ok.dst (.slice (some ⟨x.heap.size, 0, none⟩) 1 1)) (x.alloc (ob u))) :
    wpAnyH P .any ops (NoPanic Q) S (fuel + 1 + 1 + 1) listed a w := by
  refine wpAnyH_all r0 l0m.1 (fun m hm => ?_)
  rcases l0m.2 m hm with rfl | rfl
  · refine wpOp_step (opAt_of hi0) (fun K' hK => ?_)
    rw [if_pos (wi _)]
    unfold Oper.wp
    rw [vi w hw]
    refine hK _ _ ⟨hLS _ hw, ?_⟩
    refine h_call (i := j) S (fun _ h => h) cj hj0 ri (wj _) ej1 (fun e x1 hx1 => ?_)
    obtain ⟨u, rfl, h1, h2⟩ := hx1
    refine ⟨u, rfl, hLS _ h1, ?_⟩
    exact h_value (i := k) S (fun _ h => h) hk0 rij (wk _) (bk x1 u h1 h2) (hLS _ (hLa x1 u h1)) (h x1 u h1 h2)
  · refine wpOp_step (opAt_of hj0) (fun K' hK => ?_)
    rw [if_pos (wj _)]
    unfold Oper.wp
    rw [ej]
    exact cj.mono fun e x1 hx1 => by
      obtain ⟨u, rfl, h1, h2⟩ := hx1
      refine hK _ _ ⟨hLS _ h1, ?_⟩
      refine wpAnyH_all rj l1m.1 (fun m2 hm2 => ?_)
      rcases l1m.2 m2 hm2 with rfl | rfl
      · refine wpOp_step (opAt_of hi0) (fun K2 hK2 => ?_)
        rw [if_pos (wi _)]
        unfold Oper.wp
        rw [vi1 x1 u h1]
        refine hK2 _ _ ⟨hLS _ h1, ?_⟩
        refine h_value (i := k) S (fun _ h => h) hk0 rji (wk _) (bk2 x1 u h1 h2) (hLS _ (hLa x1 u h1)) ?_
        rw [hl1, ha1]
        exact h x1 u h1 h2
      · refine wpOp_step (opAt_of hk0) (fun K2 hK2 => ?_)
        rw [if_pos (wk _)]
        unfold Oper.wp
        rw [bk1 x1 u h1 h2]
        refine hK2 _ _ ⟨hLS _ (hLa x1 u h1), ?_⟩
        refine h_value (i := i) S (fun _ h => h) hi0 rjk (wi _) (vi2 _ u _ (hLa x1 u h1)) (hLS _ (hLa x1 u h1)) ?_
        rw [hl2, ha2]
        exact h x1 u h1 h2
end
end Go.Proofs.Ytipfoclmdbbjiaa

/- Groups as blocks of five cells: whole-row rules, a list of rows in a field. Lemmas alone. -/
namespace Go.Proofs.Ytipfoclmdbbjiaa
open Go.RowKit
set_option maxRecDepth 100000 in
theorem gg_info : (Try.prog.info? 48).map (·.size) = some 5 := by kernel_rfl
set_option maxRecDepth 100000 in
theorem gw_info : (Try.prog.info? 44).map (·.size) = some 5 := by kernel_rfl
set_option maxRecDepth 100000 in
theorem gg_size (x y z u v : Value) : #[x, y, z, u, v].size = 5 := rfl
set_option maxRecDepth 100000 in
theorem gg_plain (k1 k2 k3 k4 : IntKind) (a b c d : Int) (s : Option Addr) (n m : Nat) : Plain #[.int k1 a, .int k2 b, .int k3 c, .int k4 d, .slice s n m] := by unfold Plain; simp [Value.oneCell']
set_option maxRecDepth 100000 in
theorem ld_g0 (v : Value) : Instr.loadAt 48 v = wLoad 48 v := rfl
set_option maxRecDepth 100000 in
theorem ld_g (w : World) (b : Nat) : (wLoad 48 (.pointer (some ⟨b, 0, none⟩))).run Try.prog w = loadAns 5 w (blk w b) (wLoadRes Try.prog 48 b w) := run_wLoad Try.underlying48 rfl gg_info w b
set_option maxRecDepth 100000 in
theorem ld_w0 (v : Value) : Instr.loadAt 44 v = wLoad 44 v := rfl
set_option maxRecDepth 100000 in
theorem ld_w (w : World) (b : Nat) : (wLoad 44 (.pointer (some ⟨b, 0, none⟩))).run Try.prog w = loadAns 5 w (blk w b) (wLoadRes Try.prog 44 b w) := run_wLoad Try.underlying44 rfl gw_info w b
set_option maxRecDepth 100000 in
theorem sto_g0 (p x : Value) : Instr.storeAt 48 p x = wStore 48 p x := rfl
set_option maxRecDepth 100000 in
theorem sto_g (w : World) (b : Nat) (C : Array Value) : (wStore 48 (.pointer (some ⟨b, 0, none⟩)) (.agg C)).run Try.prog w = storeAns 5 w b C (blk w b) (wStoreRes Try.prog 48 b C w) := run_wStore gg_info w b C
set_option maxRecDepth 100000 in
theorem sto_w0 (p x : Value) : Instr.storeAt 44 p x = wStore 44 p x := rfl
set_option maxRecDepth 100000 in
theorem sto_w (w : World) (b : Nat) (C : Array Value) : (wStore 44 (.pointer (some ⟨b, 0, none⟩)) (.agg C)).run Try.prog w = storeAns 5 w b C (blk w b) (wStoreRes Try.prog 44 b C w) := run_wStore gw_info w b C
set_option maxRecDepth 100000 in
theorem zeroGG (w : World) : (zeroValue 48).run Try.prog w = .ok (.agg #[.int .u32 0, .int .u32 0, .int .i64 0, .int .i64 0, .slice none 0 0]) w := by kernel_rfl
set_option maxRecDepth 100000 in
theorem zeroGW (w : World) : (zeroValue 44).run Try.prog w = .ok (.agg #[.int .u32 0, .int .u32 0, .int .i64 0, .int .i64 0, .slice none 0 0]) w := by kernel_rfl
/-- the inputs' bytes -/
def inV (I : Nat → Nat) (j t : Nat) : Nat := put16F (I j) t
set_option maxRecDepth 100000 in
theorem inV_bd (I : Nat → Nat) (h : ∀ j, I j < 65536) : Bd2 (inV I) := fun j t => by
  have := h j
  unfold inV put16F
  split <;> omega
/-- a group's shards -/
def grD (K : Nat) (I : Nat → Nat) : Nat → Nat → Nat := catV K (inV I) (paF K (inV I))
/-- a block whose fifth cell is a list of rows of one's own -/
structure MkAt (wr W : World) (q : Nat) (T : TypeId) (no fi K m : Int) (v : Value) (i n : Nat) (V : Nat → Nat → Nat) : Prop where
  b : wr.heap[q]? = some (.cells #[.int .u32 no, .int .u32 fi, .int .i64 K, .int .i64 m, v] T (0, 0))
  own : OwnS wr W.heap.size v i n V
  lo : Below W.heap.size W wr
  q : W.heap.size ≤ q
set_option maxRecDepth 100000 in
theorem MkAt.lt {wr W : World} {q i n : Nat} {T : TypeId} {no fi K m : Int} {v : Value} {V : Nat → Nat → Nat} (h : MkAt wr W q T no fi K m v i n V) : q < wr.heap.size := (Array.getElem?_eq_some_iff.1 h.b).1
set_option maxRecDepth 100000 in
theorem MkAt.below {wr w2 W : World} {q i n : Nat} {T : TypeId} {no fi K m : Int} {v : Value} {V : Nat → Nat → Nat} (h : MkAt wr W q T no fi K m v i n V) (hb : Below wr.heap.size wr w2) : MkAt w2 W q T no fi K m v i n V :=
  ⟨(hb.block q h.lt).trans h.b, h.own.below hb, h.lo.trans (hb.mono h.lo.size), h.q⟩
set_option maxRecDepth 100000 in
theorem MkAt.cell {wr W : World} {q i n : Nat} {T : TypeId} {no fi K m : Int} {v : Value} {V : Nat → Nat → Nat} (h : MkAt wr W q T no fi K m v i n V) : wr.cell? ⟨q, 4, none⟩ = some v ∧ wr.frozen? ⟨q, 4, none⟩ = false :=
  ⟨(cell_of_block h.b).trans rfl, frozen_of_row wr q 4 _ _ h.b⟩
set_option maxRecDepth 100000 in
/-- behind an append to the list: the block still holds the old one -/
theorem MkAt.step {wr W w6 : World} {q i n i' : Nat} {T : TypeId} {no fi K m : Int} {v v' : Value} {V V' : Nat → Nat → Nat} (h : MkAt wr W q T no fi K m v i n V) (hT : T ≠ 58) (hg : wr.grownBy w6 v.ownBlock) (ho : OwnS w6 W.heap.size v' i' n V') :
    w6.heap[q]? = some (.cells #[.int .u32 no, .int .u32 fi, .int .i64 K, .int .i64 m, v] T (0, 0)) ∧ Below W.heap.size W w6 := by
  refine ⟨(hg.block q h.lt (fun e => ?_)).trans h.b, below_grown h.lo (Nat.le_refl _) hg (fun p hp => (h.own.lt p hp).1)⟩
  obtain ⟨A, h1, _⟩ := h.own
  obtain ⟨cur, fr, h2⟩ := own_type h1 q e.symm
  rw [h.b] at h2
  injection h2 with h2
  injection h2 with _ h3
  exact hT h3
set_option maxRecDepth 100000 in
theorem MkAt.put {wr W w6 : World} {q i n i' : Nat} {T : TypeId} {no fi K m : Int} {v v' : Value} {V V' : Nat → Nat → Nat} (h : MkAt wr W q T no fi K m v i n V) (hT : T ≠ 58) (hT2 : T ≠ 5) (hg : wr.grownBy w6 v.ownBlock) (ho : OwnS w6 W.heap.size v' i' n V') :
    MkAt (w6.setCell ⟨q, 4, none⟩ v') W q T no fi K m v' i' n V' := by
  obtain ⟨h1, h2⟩ := h.step hT hg ho
  refine ⟨(blk_set h1 4 v').trans rfl, ho.kept (only_set (only_refl w6 (some q)) 4 v') ?_ (fun p hp => ?_), h2.setCell h.q v', h.q⟩
  · rcases hv : v'.ownBlock with _ | p
    · exact .inl rfl
    · refine .inr (fun e => ?_)
      injection e with e
      subst e
      obtain ⟨A, h3, _⟩ := ho
      obtain ⟨cur, fr, h4⟩ := own_type h3 p hv
      rw [h1] at h4
      injection h4 with h4
      injection h4 with _ h5
      exact hT h5
  · injection hp with hp
    subst hp
    exact ⟨_, _, _, h1, hT2⟩
set_option maxRecDepth 100000 in
theorem own_base2 {w : World} {b b' n : Nat} {v : Value} {xs : List Value} {T : TypeId} (h : w.ownsRow b T 1 v n xs) (hb : b' ≤ b) : w.ownsRow b' T 1 v n xs := by
  refine ⟨h.1, ?_⟩
  rcases h.2 with h1 | ⟨g, cap, cur, h1, h2, h3⟩
  · exact .inl h1
  · exact .inr ⟨g, cap, cur, h1, by omega, h3⟩
set_option maxRecDepth 100000 in
theorem OwnS.base {w : World} {b b' m n : Nat} {v : Value} {V : Nat → Nat → Nat} (h : OwnS w b v m n V) (hb : b' ≤ b) : OwnS w b' v m n V := by
  obtain ⟨A, h1, h2⟩ := h
  exact ⟨A, own_base2 h1 hb, fun i hi => (h2 i hi).base hb⟩
set_option maxRecDepth 100000 in
theorem OwnS.form {w : World} {b m n : Nat} {v : Value} {V : Nat → Nat → Nat} (h : OwnS w b v m n V) : ∃ s cap, v = .slice s m cap := by
  obtain ⟨s, cap, h, _⟩ := h.open
  exact ⟨s, cap, h⟩
set_option maxRecDepth 100000 in
theorem ApAt.rowsS {wr W : World} {g R n : Nat} {G : Nat → Nat → Nat} {D : Array Value} (h : ApAt wr W g R n R G D) (hn : n ≤ 100000) : ∃ A : Nat → Value, (∀ i, i < R → wr.cell? ⟨g, i, none⟩ = some (A i)) ∧ ∀ i, i < R → SlR wr g n (G i) (A i) := by
  obtain ⟨A, hA⟩ := h.cells hn
  exact ⟨A, fun i hi => (hA i hi).1, fun i hi => (hA i hi).2⟩
/-- a group that comes back -/
def MkPost (W : World) (no fi : Int) (K m : Nat) (I : Nat → Nat) (x : Value) (e : Ending) (W' : World) : Prop :=
  ∃ s cap, e = .returned (.tuple #[.agg #[.int .u32 no, .int .u32 fi, .int .i64 (K : Nat), .int .i64 (m : Nat), .slice s (K + m) cap], x]) ∧ OwnS W' W.heap.size (.slice s (K + m) cap) (K + m) 2 (grD K I) ∧ Below W.heap.size W W'
def MkNo (W : World) (x : Value) (e : Ending) (W' : World) : Prop :=
  e = .returned (.tuple #[.agg #[.int .u32 0, .int .u32 0, .int .i64 0, .int .i64 0, .slice none 0 0], x]) ∧ Below W.heap.size W W'
set_option maxRecDepth 100000 in
/-- append(s, p...) of rows, both of one's own -/
theorem wpList_catO {ops : Array Oper} {rest : List Oper} {o : Oper} {a : Act} {w : World} {Q : Exit → Act → World → Prop} (hgd : o.guard = none) (s x : Operand)
    (ho : o.op = .call { callee := .builtin .append, args := #[s, x], argTypes := #[42, 42] })
    (v xv : Value) (base m n c : Nat) (V U : Nat → Nat → Nat) (hs : a.eval s = v) (hx : a.eval x = xv)
    (hown : OwnS w base v m n V) (hsrc : OwnS w base xv c n U) (hm : m + c ≤ 1000000) (hbase : base ≤ w.heap.size)
    (h : ∀ v' w', OwnS w' base v' (m + c) n (catV m V U) → w.grownBy w' v.ownBlock → wpList Try.prog ops Q rest (a.put o.dst v') w') : wpList Try.prog ops Q (o :: rest) a w := by
  obtain ⟨A', h1, h2⟩ := hsrc
  rcases h1.2 with ⟨h3, h4⟩ | ⟨g, cap, cur, hv, hb, hg, q1, q2, q3, q4⟩
  · subst h3
    subst h4
    refine wpList_catS0 hgd s x ho v base m n V hs hx hown (h v w (hown.congr (fun i j hi _ => ?_)) (only_refl _ _))
    unfold catV
    rw [if_pos (by omega)]
  · subst hv
    refine wpList_catS hgd s x ho v base m n c cap V U g A' hs hx hown (fun i hi => ?_) h2 hm hbase h
    rw [cell_of_block hg]
    have e : ((List.range c).map A')[i]? = some (A' i) := by simp [hi]
    rw [← q4, List.getElem?_take, if_pos (by omega), Array.getElem?_toList] at e
    exact e
end Go.Proofs.Ytipfoclmdbbjiaa

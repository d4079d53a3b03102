/- The walk of the law PolyAdds: it answers true for every two polynomials. -/
import Derived.Test.YtmdpbacjcidpgaaPolyAwake
namespace Go.Proofs.Ytmdpbacjcidpgaa
open Go.RowKit
/-- the slope -/
def slF (f : Nat → Nat) (j : Nat) : Nat := if j % 2 = 0 then f (j + 1) else 0
def slK (f : Nat → Nat) (k j : Nat) : Nat := if j % 2 = 0 ∧ j < 2 * k then f (j + 1) else 0
theorem slK_zero (f : Nat → Nat) (j : Nat) : slK f 0 j = 0 := by unfold slK; rw [if_neg (by omega)]
theorem slK_next (f : Nat → Nat) (k j : Nat) : (if j = 2 * k then f (2 * k + 1) else slK f k j) = slK f (k + 1) j := by
  unfold slK
  by_cases e : j = 2 * k
  · subst e; rw [if_pos rfl, if_pos ⟨by omega, by omega⟩]
  · rw [if_neg e]
    by_cases h : j % 2 = 0 ∧ j < 2 * k
    · rw [if_pos h, if_pos ⟨h.1, by omega⟩]
    · rw [if_neg h, if_neg (by omega)]
theorem slK_end (f : Nat → Nat) (n k j : Nat) (hk : n ≤ 2 * k + 1) (hj : j < n - 1) : slK f k j = slF f j := by
  unfold slK slF
  by_cases h : j % 2 = 0
  · rw [if_pos h, if_pos ⟨h, by omega⟩]
  · rw [if_neg h, if_neg (by omega)]
theorem slF_zr (f : Nat → Nat) (n : Nat) (h : Zr n f) : Zr (n - 1) (slF f) := fun j hj => by unfold slF; split; exact h _ (by omega); rfl
attribute [local irreducible] gexp gtbl glog rmul rinv rpow zexp
attribute [local irreducible] td cvs cv mixF xf OwnB lbF prF lgF linF oneF fcN ev hv slF slK
set_option maxHeartbeats 2000000 in
theorem p_slope (s : Option Addr) (n cap : Nat) (f : Nat → Nat) (w : World) (hs : Pv w s n cap f) (hn : n ≤ 100000) :
    Calls Try.prog 18 #[.slice s n cap] w (RowPost w (td (slF f) (n - 1)) (slF f)) := by
  have hsh := Lib.hid hs
  have hnx := Lib.hid (fun k j => slK_next f k j)
  have hen := Lib.hid (fun k j hk hj => slK_end f n k j hk hj)
  have hz := Lib.hid (fun j => slK_zero f j)
  clear hs
  cases n with
  | zero =>
    have hmk : ∀ x : World, (Instr.makeSlice 24 (.int .i64 0) (.int .i64 0)).run Try.prog x = .ok (.slice (some ⟨x.heap.size, 0, none⟩) 0 0) (x.alloc (.cells (madeCells #[.int .u8 0] 0) 5)) := fun x => make_row (P := Try.prog) Try.underlying24 info8 0 (by omega) (by decide) x
    have hmd := Lib.hid (brow_made w 0)
    have hBz := Lib.hid ((Below.refl w.heap.size w).alloc (Nat.le_refl _) (.cells (madeCells #[.int .u8 0] 0) 5))
    have ht0 : Hid (td (slF f) (0 - 1) = td (slF f) 0) := hide rfl
    rw [ht0.out]
    go_enter Try.func18, Try.ntmps18
    go_upto_region 2 with (fail)
    generalize World.alloc w _ = V at *
    have k1 := Lib.hid (p_trim (some ⟨w.heap.size, 0, none⟩) 0 0 (slF f) V (Pv.row (hmd.out.congr (fun i hi => absurd hi (by omega))) (Nat.le_refl _) (by unfold maxLen; omega)) (by omega))
    clear hmk
    go_wp2_with fail
    go_loop [4] (fun v => v = .int .i64 1) (fun v => 0)
    case atStart => rfl
    case round =>
      subst hrel
      go_wp2_with fail
      refine k1.out.mono ?_
      rintro e w5 ⟨g2, c5, rfl, h1, h2, h3, h4, h5⟩
      go_wp2_with fail
      go_ret
      exact ⟨g2, c5, rfl, Nat.le_trans hBz.out.size h1, h2, h3, h4, hBz.out.trans (h5.mono hBz.out.size)⟩
  | succ N =>
    have hmk : ∀ x : World, (Instr.makeSlice 24 (.int .i64 (N : Int)) (.int .i64 (N : Int))).run Try.prog x = .ok (.slice (some ⟨x.heap.size, 0, none⟩) N N) (x.alloc (.cells (madeCells #[.int .u8 0] N) 5)) := fun x => make_row (P := Try.prog) Try.underlying24 info8 N (by omega) (by decide) x
    have hmd := Lib.hid (brow_made w N)
    have hBz := Lib.hid ((Below.refl w.heap.size w).alloc (Nat.le_refl _) (.cells (madeCells #[.int .u8 0] N) 5))
    have e1 : decide ((N : Int) < 0) = false := decide_eq_false (by omega)
    have e2 : decide (0 ≤ (N : Int)) = true := decide_eq_true (by omega)
    have e3 : decide (0 < (N : Int)) = true ∨ (N : Int) = 0 := by
      by_cases h : 0 < (N : Int)
      · exact .inl (decide_eq_true h)
      · exact .inr (by omega)
    rw [Nat.add_sub_cancel]
    have hsw : w.heap.size < (w.alloc (.cells (madeCells #[.int .u8 0] N) 5)).heap.size := by rw [show (w.alloc (.cells (madeCells #[.int .u8 0] N) 5)).heap.size = w.heap.size + 1 from by show (w.heap.push _).size = _; rw [Array.size_push]]; omega
    go_enter Try.func18, Try.ntmps18
    go_upto_region 2 with (fail)
    all_goals
      generalize World.alloc w _ = V at *
      clear hmk
      go_wp2_with fail
      go_loopw [4] (fun v wr => ∃ k : Nat, 2 * k ≤ N + 1 ∧ v = .int .i64 (2 * (k : Int) + 1) ∧ BRow wr w.heap.size N (slK f k) ∧ Below w.heap.size w wr) (fun v _ => N + 2 - (intOf v).toNat)
      case atStart => exact ⟨0, by omega, by go_num, hmd.out.congr (fun i _ => (hz.out i).symm), hBz.out⟩
      case round =>
        obtain ⟨k, hk, rfl, hr, hB⟩ := hrel
        clear hmd hBz
        by_cases hlt : 2 * k + 1 < N + 1
        · obtain ⟨b, off, hx, hc⟩ := hsh.out.rd (2 * k + 1) hlt
          subst hx
          have c0 := (hB.cell (p := ⟨b, off + (2 * k + 1), none⟩) (cell_block_lt hc)).trans hc
          have c1 := FRow.cell hr (2 * k) (by omega)
          have c2 := FRow.fr hr (2 * k)
          have i1 : 2 * (k : Int) + 1 < (N : Int) + 1 := by omega
          have i2 : 2 * (k : Int) < (N : Int) := by omega
          have i3 : (2 * (k : Int) + 1).toNat = 2 * k + 1 := by omega
          have i4 : (2 * (k : Int)).toNat = 2 * k := by omega
          have hst := Lib.hid ((hr.set (2 * k) (f (2 * k + 1))).congr (fun j _ => hnx.out k j))
          have hBs := Lib.hid (hB.setCell (p := ⟨w.heap.size, 2 * k, none⟩) (Nat.le_refl _) (.int .u8 (f (2 * k + 1) : Nat)))
          clear hc hr hB
          go_wp2_with fail
          go_roundw
          case rel => exact ⟨k + 1, by omega, by go_num, hst.out, hBs.out⟩
          case measure => simp [intOf]; omega
        · have hr2 := hr.congr (fun j hj => hen.out k j (by omega) (by omega))
          have k1 := Lib.hid (p_trim (some ⟨w.heap.size, 0, none⟩) N N (slF f) wr (Pv.row hr2 (Nat.le_refl _) (by unfold maxLen; omega)) (by omega))
          have d1 : decide (2 * (k : Int) + 1 < (N : Int) + 1) = false := decide_eq_false (by omega)
          have hBh := Lib.hid hB
          clear hr hr2 hB
          go_wp2_with fail
          refine k1.out.mono ?_
          rintro e w5 ⟨g2, c5, rfl, h1, h2, h3, h4, h5⟩
          go_wp2_with fail
          go_ret
          exact ⟨g2, c5, rfl, Nat.le_trans hBh.out.size h1, h2, h3, h4, hBh.out.trans (h5.mono hBh.out.size)⟩
theorem sl_even (f : Nat → Nat) (i : Nat) (h : i % 2 = 0) : slF f i = f (i + 1) := by unfold slF; rw [if_pos h]
theorem sl_odd (f : Nat → Nat) (i : Nat) (h : ¬ i % 2 = 0) : slF f i = 0 := by unfold slF; rw [if_neg h]
theorem td_two' (f : Nat → Nat) (n m : Nat) (h1 : Zr n f) (h2 : Zr m f) : td f n = td f m := by
  rw [← td_more f n (max n m) h1 (by omega), ← td_more f m (max n m) h2 (by omega)]
theorem td_slf (f : Nat → Nat) (n : Nat) : td f (td f n) = td f n := td_uniq _ _ _ (fun i h1 h2 => by omega) (td_top f n) (Nat.le_refl _)
set_option maxRecDepth 100000 in
set_option maxHeartbeats 4000000 in
theorem polyAdds_walk (a0 : Option Addr) (len0 cap0 : Nat) (z0 : List Int) (a1 : Option Addr) (len1 cap1 : Nat) (z1 : List Int) (w : World) (w0 : IsRow .u8 w a0 len0 cap0 z0) (w1 : IsRow .u8 w a1 len1 cap1 z1) :
    Calls Try.prog 5 #[.slice a0 len0 cap0, .slice a1 len1 cap1] w fun e w' => e = .returned (.bool true) ∧ Below w.heap.size w w' := by
  obtain ⟨f, pf, bf, zf⟩ := pv_open w0
  obtain ⟨g, pg, bg, zg⟩ := pv_open w1
  clear w0 w1
  by_cases hs : 60 < len0 ∨ 60 < len1
  · clear pf pg
    go_enter Try.func5, Try.ntmps5
    go_wp2_with fail
    refine (po_awake w).mono ?_
    rintro e w1 ⟨rfl, hb1⟩
    go_wp2_with fail
    refine (po_short_no a0 a1 len0 len1 cap0 cap1 w1 hs).mono ?_
    rintro e w' ⟨rfl, rfl⟩
    go_wp2_with fail
    go_ret
    exact ⟨rfl, hb1⟩
  have n0 : len0 ≤ 60 := by omega
  have n1 : len1 ≤ 60 := by omega
  have pfh := Lib.hid pf
  have pgh := Lib.hid pg
  have ks := Lib.hid (fun W (h : Pv W a0 len0 cap0 f) => p_slope a0 len0 cap0 f W h (by omega))
  have kat := Lib.hid (fun W (i : Int) (h : Pv W a0 len0 cap0 f) h0 => r_at a0 len0 cap0 i f W h.rd zf h0 (by omega))
  have zsl := td_zr (slF f) (len0 - 1) (slF_zr f len0 zf)
  have lsl := td_le (slF f) (len0 - 1)
  have tsl := td_slf (slF f) (len0 - 1)
  have kas := Lib.hid (fun W (i : Int) s c (h : By W s (td (slF f) (len0 - 1)) (slF f)) h0 => r_at s (td (slF f) (len0 - 1)) c i (slF f) W h zsl h0 (by omega))
  have kds := Lib.hid (fun W s c (h : Pv W s (td (slF f) (len0 - 1)) c (slF f)) => r_degree s (td (slF f) (len0 - 1)) c (slF f) W h (by omega))
  rw [tsl] at kds
  have kadd := Lib.hid (fun W (h1 : Pv W a0 len0 cap0 f) (h2 : Pv W a1 len1 cap1 g) => p_add a0 a1 len0 len1 cap0 cap1 f g W h1 h2 bf bg zf zg (by omega) (by omega))
  have kadr := Lib.hid (fun W (h1 : Pv W a0 len0 cap0 f) (h2 : Pv W a1 len1 cap1 g) => r_add a0 a1 len0 len1 cap0 cap1 f g W h1 h2 bf bg zf zg (by omega) (by omega))
  have kis1 := Lib.hid (fun W s t ca cb h1 h2 => r_is s t (td (xf f g) (max len0 len1)) (max len0 len1) ca cb (xf f g) W h1 h2 rfl (by have := td_le (xf f g) (max len0 len1); omega) (by omega))
  have kmul := Lib.hid (fun p W (hg : IsGf W p) (h1 : Pv W a0 len0 cap0 f) (h2 : Pv W a1 len1 cap1 g) => p_mul p a0 a1 len0 len1 cap0 cap1 f g W hg h1 h2 bf bg zf zg (by omega) (by omega))
  have kmur := Lib.hid (fun W (h1 : Pv W a0 len0 cap0 f) (h2 : Pv W a1 len1 cap1 g) => r_mul4 a0 a1 len0 len1 cap0 cap1 f g W h1 h2 bf bg zf zg (by omega) (by omega))
  have kis2 := Lib.hid (fun W s t ca cb h1 h2 => r_is s t (td (cv f g) (len0 + len1)) (len0 + len1) ca cb (cv f g) W h1 h2 rfl (by have := td_le (cv f g) (len0 + len1); omega) (by omega))
  have ktr := Lib.hid (fun W (h : Pv W a0 len0 cap0 f) => p_trim a0 len0 cap0 f W h (by omega))
  have kis3 := Lib.hid (fun W s ca h1 h2 => r_is s a0 (td f len0) len0 ca cap0 f W h1 h2 rfl (by have := td_le f len0; omega) (by omega))
  have kdp := Lib.hid (fun W (h : Pv W a0 len0 cap0 f) => p_degree a0 len0 cap0 f W h (by omega))
  have kdr := Lib.hid (fun W (h : Pv W a0 len0 cap0 f) => r_degree a0 len0 cap0 f W h (by omega))
  have hev := Lib.hid (fun i h => sl_even f i h)
  have hod := Lib.hid (fun i h => sl_odd f i h)
  clear pf pg bf bg zf zg hs zsl tsl
  generalize td (slF f) (len0 - 1) = ns at *
  go_enter Try.func5, Try.ntmps5
  go_wp2_with fail
  refine (po_awake w).mono ?_
  rintro e w1 ⟨rfl, hb1⟩
  go_wp2_with fail
  refine (po_short_yes a0 a1 len0 len1 cap0 cap1 w1 n0 n1).mono ?_
  rintro e w' ⟨rfl, rfl⟩
  go_wp2_with fail
  refine (gf_new w1).mono ?_
  rintro e w2 ⟨rfl, n, hw2⟩
  have hg2 : IsGf w2 w1.heap.size := by rw [hw2]; exact IsGf.made w1 n
  have hb2 : Below w.heap.size w w2 := by rw [hw2]; exact below_drewN (hb1.alloc hb1.size _) _
  clear hw2 hb1
  have hb2h := Lib.hid hb2
  have hg2h := Lib.hid hg2
  generalize w1.heap.size = p at *
  clear hb2 hg2
  go_wp2_with fail
  refine (ks.out w2 (pfh.out.below hb2h.out)).mono ?_
  rintro e w3 ⟨g3, c3, rfl, y1, y2, y3, y4, y5⟩
  have hb3 := Lib.hid (below_step hb2h.out hb2h.out.size y5)
  have hg3 := Lib.hid (hg2h.out.below y5 hg2h.out.lt)
  have ps := Lib.hid (Pv.row y4 y2 y3)
  clear y4 y5 ks
  go_wp2_with fail
  go_loop [7] (fun v => ∃ i : Nat, i ≤ len0 ∧ v = .int .i64 i) (fun v => len0 - (intOf v).toNat)
  case atStart => exact ⟨0, Nat.zero_le _, rfl⟩
  case round =>
    obtain ⟨i, hi, rfl⟩ := hrel
    by_cases hil : i < len0
    · have hd : decide (i < ns) = true ∨ (decide (i < ns) = false ∧ decide (i < len0) = true) := by
        by_cases h : i < ns
        · exact .inl (decide_eq_true h)
        · exact .inr ⟨decide_eq_false h, decide_eq_true hil⟩
      have k1 := Lib.hid (kat.out w3 ((i : Int) + 1) (pfh.out.below hb3.out) (by omega))
      have k2 := Lib.hid (kas.out w3 (i : Int) _ c3 ps.out.rd (by omega))
      rw [show ((i : Int) + 1).toNat = i + 1 by omega] at k1
      rw [Int.toNat_natCast] at k2
      by_cases he : i % 2 = 0
      · have d1 : (((i : Int) % 2) == 0) = true := by simp; omega
        have d2 : ((i : Int).tmod 2 == 0) = true := by rw [Int.tmod_eq_emod_of_nonneg (by omega)]; simp; omega
        rw [hev.out i he] at k2
        generalize f (i + 1) = y at *
        clear he
        rcases hd with hd | ⟨hd, hd2⟩
        all_goals
          go_wp2_with fail
          refine k1.out.mono ?_
          rintro e w' ⟨rfl, rfl⟩
          go_wp2_with fail
          refine k2.out.mono ?_
          rintro e w' ⟨rfl, rfl⟩
          go_wp2_with fail
          go_round
          case rel => exact ⟨i + 1, by omega, by go_num⟩
          case measure => simp [intOf]; omega
      · have d1 : (((i : Int) % 2) == 0) = false := by simp; omega
        have d2 : ((i : Int).tmod 2 == 0) = false := by rw [Int.tmod_eq_emod_of_nonneg (by omega)]; simp; omega
        rw [hod.out i he] at k2
        clear he
        rcases hd with hd | ⟨hd, hd2⟩
        all_goals
          go_wp2_with fail
          refine k2.out.mono ?_
          rintro e w' ⟨rfl, rfl⟩
          go_wp2_with fail
          go_round
          case rel => exact ⟨i + 1, by omega, by go_num⟩
          case measure => simp [intOf]; omega
    · obtain rfl : i = len0 := by omega
      have d1 : decide (i < ns) = false := decide_eq_false (by omega)
      clear kat kas hev hod
      go_wp2_with fail
      refine (kadd.out w3 (pfh.out.below hb3.out) (pgh.out.below hb3.out)).mono ?_
      rintro e w4 ⟨g4, c4, rfl, x1, x2, x3, x4, x5⟩
      have hb4 := Lib.hid (below_step hb3.out hb3.out.size x5)
      have hg4 := Lib.hid (hg3.out.below x5 hg3.out.lt)
      have ps4 := Lib.hid (ps.out.below x5)
      have p4 := Lib.hid (Pv.row x4 x2 x3)
      clear x4 x5 x1 x2 x3
      go_wp2_with fail
      refine (kadr.out w4 (pfh.out.below hb4.out) (pgh.out.below hb4.out)).mono ?_
      rintro e w5 ⟨s5, c5, rfl, x4, x5⟩
      have hb5 := Lib.hid (below_step hb4.out hb4.out.size x5)
      have hg5 := Lib.hid (hg4.out.below x5 hg4.out.lt)
      have ps5 := Lib.hid (ps4.out.below x5)
      have p5 := Lib.hid (p4.out.below x5)
      have q5 := Lib.hid x4
      clear x4 x5
      go_wp2_with fail
      refine (kis1.out w5 _ s5 c4 c5 p5.out q5.out).mono ?_
      rintro e w6 ⟨rfl, x5⟩
      have hb6 := Lib.hid (below_step hb5.out hb5.out.size x5)
      have hg6 := Lib.hid (hg5.out.below x5 hg5.out.lt)
      have ps6 := Lib.hid (ps5.out.below x5)
      clear x5 p5 q5 p4 ps4 ps5 hg4 hg5
      go_wp2_with fail
      refine (kmul.out p w6 hg6.out (pfh.out.below hb6.out) (pgh.out.below hb6.out)).mono ?_
      rintro e w7 ⟨g7, c7, rfl, x1, x2, x3, x4, x5⟩
      have hb7 := Lib.hid (below_step hb6.out hb6.out.size x5)
      have ps7 := Lib.hid (ps6.out.below x5)
      have p7 := Lib.hid (Pv.row x4 x2 x3)
      clear x4 x5 x1 x2 x3
      go_wp2_with fail
      refine (kmur.out w7 (pfh.out.below hb7.out) (pgh.out.below hb7.out)).mono ?_
      rintro e w8 ⟨s8, c8, rfl, x4, x5⟩
      have hb8 := Lib.hid (below_step hb7.out hb7.out.size x5)
      have ps8 := Lib.hid (ps7.out.below x5)
      have p8 := Lib.hid (p7.out.below x5)
      have q8 := Lib.hid x4
      clear x4 x5
      go_wp2_with fail
      refine (kis2.out w8 _ s8 c7 c8 p8.out q8.out).mono ?_
      rintro e w9 ⟨rfl, x5⟩
      have hb9 := Lib.hid (below_step hb8.out hb8.out.size x5)
      have ps9 := Lib.hid (ps8.out.below x5)
      clear x5 p8 q8 p7 ps7 ps8
      go_wp2_with fail
      refine (ktr.out w9 (pfh.out.below hb9.out)).mono ?_
      rintro e w10 ⟨g10, c10, rfl, x1, x2, x3, x4, x5⟩
      have hb10 := Lib.hid (below_step hb9.out hb9.out.size x5)
      have ps10 := Lib.hid (ps9.out.below x5)
      have p10 := Lib.hid (Pv.row x4 x2 x3)
      clear x4 x5 x1 x2 x3
      go_wp2_with fail
      refine (kis3.out w10 _ c10 p10.out (pfh.out.below hb10.out)).mono ?_
      rintro e w11 ⟨rfl, x5⟩
      have hb11 := Lib.hid (below_step hb10.out hb10.out.size x5)
      have ps11 := Lib.hid (ps10.out.below x5)
      clear x5
      go_wp2_with fail
      refine (kdp.out w11 (pfh.out.below hb11.out)).mono ?_
      rintro e w' ⟨rfl, rfl⟩
      go_wp2_with fail
      refine (kdr.out w11 (pfh.out.below hb11.out)).mono ?_
      rintro e w' ⟨rfl, rfl⟩
      go_wp2_with fail
      refine (kds.out w11 _ c3 ps11.out).mono ?_
      rintro e w' ⟨rfl, rfl⟩
      go_wp2_with fail
      go_ret
      exact ⟨rfl, hb11.out⟩
end Go.Proofs.Ytmdpbacjcidpgaa

/- The contract of package matrix's Rank. Conditions: what the slice reads as. -/
import Derived.Test.YtkcalgolanpjaaaMat7
namespace Go.Proofs.Ytkcalgolanpjaaa
open Go.RowKit
theorem gj_yes1 (F : Nat → Nat → Nat) (R c : Nat) (h1 : (gjS F R c).1 < R) (h2 : pvF (gjS F R c).2 c R (gjS F R c).1 < R) : (gjS F R (c + 1)).1 = (gjS F R c).1 + 1 ∧ (gjS F R (c + 1)).2 = clF (swF (gjS F R c).2 (gjS F R c).1 (pvF (gjS F R c).2 c R (gjS F R c).1)) (swF (gjS F R c).2 (gjS F R c).1 (pvF (gjS F R c).2 c R (gjS F R c).1)) (gjS F R c).1 c := by rw [gj_yes F R c h1 h2]; exact ⟨rfl, rfl⟩
/-- what Rank holds ahead of a column -/
structure RkAt (wr W : World) (p g h R C cap c : Nat) (bm bo : Nat) (F : Nat → Nat → Nat) : Prop where
  m : MRow wr g R C (gjS F R c).2
  e : MRow wr h R 0 (fun _ _ => 0)
  p : IsGf wr p
  bm : blk wr bm = some (.cells #[.int .i64 (R : Nat), .int .i64 (C : Nat), .slice (some ⟨g, 0, none⟩) (R * C) cap] 24 (0, 0))
  bo : blk wr bo = some (.cells #[.int .i64 (R : Nat), .int .i64 0, .slice (some ⟨h, 0, none⟩) 0 0] 24 (0, 0))
  t : Two W wr g h
theorem RkAt.below {wr w2 W : World} {p g h R C cap c bm bo : Nat} {F : Nat → Nat → Nat} (k : RkAt wr W p g h R C cap c bm bo F) (hb : Below wr.heap.size wr w2) : RkAt w2 W p g h R C cap c bm bo F :=
  ⟨k.m.below hb k.m.lt, k.e.below hb k.e.lt, k.p.below hb k.p.lt, (blk_below hb (blk_lt k.bm)).trans k.bm, (blk_below hb (blk_lt k.bo)).trans k.bo, k.t.below hb⟩
theorem el_none {w : World} {h R : Nat} {F G : Nat → Nat → Nat} (k : MRow w h R 0 F) : MRow w h R 0 G := k.congr (fun r c _ hc => absurd hc (by omega))
attribute [local irreducible] gexp gtbl glog rmul rinv rpow zexp mixF blk wLoad wLoadRes loadAns wStore wStoreRes storeAns Plain flF BRow MRow elK elF IsGf ivS gjS pvF clF swF
attribute [local go_sem ↓] ld_m0 ld_x0 sto_m0 sto_x0
attribute [local go_sem] ld_m ld_x sto_m sto_x loadAns_some storeAns_some mx_size mx_plain blk_alloc_if blk_setRow_if blk_drew_at blk_drewN_at rowPut_some blk_setCell_if cellPut_some
set_option maxHeartbeats 4000000 in
theorem m_rank_no (p : Nat) (r c : Int) (a : Option Addr) (len cap : Nat) (w : World) (h : rightB r c len = false) :
    Calls Try.prog 32 #[.pointer (some ⟨p, 0, none⟩), .agg #[.int .i64 r, .int .i64 c, .slice a len cap]] w (Ret w (.int .i64 0)) := by
  have hB := below_one w (.cells #[.int .i64 r, .int .i64 c, .slice a len cap] 24)
  have h0 := last_block0 w (.cells #[.int .i64 r, .int .i64 c, .slice a len cap] 24) _ rfl
  have kr := Lib.hid (fun W => m_right r c a len cap W)
  rw [h] at kr
  go_enter Try.func32, Try.ntmps32
  go_upto_region 1 with (fail)
  generalize World.alloc w _ = W at *
  have b0 := blk_of h0
  have hBh := Lib.hid hB
  clear h0 hB
  go_wp2_with fail
  refine (kr.out W).mono ?_
  rintro e w2 ⟨rfl, hb2⟩
  have hB2 := Lib.hid (hBh.out.trans (hb2.mono hBh.out.size))
  clear hb2 b0
  go_wp2_with fail
  go_ret
  exact ⟨rfl, hB2.out⟩
theorem new_zero (R : Nat) (hR : R ≤ 255) (w : World) : Calls Try.prog 24 #[.int .i64 (R : Nat), .int .i64 0] w
    (fun e w' => ∃ g, e = .returned (.tuple #[.agg #[.int .i64 (R : Nat), .int .i64 0, .slice (some ⟨g, 0, none⟩) 0 0], .int .i64 0]) ∧ w.heap.size ≤ g ∧ MRow w' g R 0 (fun _ _ => 0) ∧ Below w.heap.size w w') := m_new R 0 w hR (by omega)
set_option maxRecDepth 100000 in
set_option maxHeartbeats 8000000 in
theorem m_rank (p R C : Nat) (a : Option Addr) (cap : Nat) (F : Nat → Nat → Nat) (w : World) (hp : IsGf w p) (ha : MAt w a R C F) (hnil : a = none → R * C = 0 ∧ cap = 0) (hF : Bd2 F) (hR : R ≤ 255) (hC : C ≤ 255) :
    Calls Try.prog 32 #[.pointer (some ⟨p, 0, none⟩), .agg #[.int .i64 (R : Nat), .int .i64 (C : Nat), .slice a (R * C) cap]] w (Ret w (.int .i64 ((gjS F R C).1 : Nat))) := by
  have hz := zeroM
  have hB := below_one w (.cells #[.int .i64 (R : Nat), .int .i64 (C : Nat), .slice a (R * C) cap] 24)
  have h0 := last_block0 w (.cells #[.int .i64 (R : Nat), .int .i64 (C : Nat), .slice a (R * C) cap] 24) _ rfl
  have hsz : w.heap.size < (w.alloc (.cells #[.int .i64 (R : Nat), .int .i64 (C : Nat), .slice a (R * C) cap] 24)).heap.size := by show _ < (w.heap.push _).size; rw [Array.size_push]; omega
  have kr := Lib.hid (fun W => m_right R C a (R * C) cap W)
  rw [right_nat R C hR hC] at kr
  have hrc := rc_le hR hC
  have kc := Lib.hid (fun W (h : MAt W a R C F) => m_clone R C a (R * C) cap (flF C F) W h.by hnil (by omega))
  have ki := Lib.hid (fun W => new_zero R hR W)
  have hah := Lib.hid ha
  have hph := Lib.hid hp
  have hpl := hp.lt
  clear ha hp
  go_enter Try.func32, Try.ntmps32
  go_upto_region 1 with (fail)
  generalize World.alloc w _ = W at *
  have b0 := blk_of h0
  have h0h := Lib.hid b0
  have hBh := Lib.hid hB
  have haW := Lib.hid (hah.out.below hB)
  have hpW := Lib.hid (hph.out.below hB hpl)
  clear h0 hB
  go_wp2_with fail
  refine (kr.out W).mono ?_
  rintro e w2 ⟨rfl, hb2⟩
  have b02 := (blk_below hb2 hsz).trans h0h.out
  have hb2h := Lib.hid hb2
  have hs2 := hb2.size
  have kc2 := Lib.hid (kc.out w2 (haW.out.below hb2))
  clear hb2 b0
  go_wp2_with fail
  refine kc2.out.mono ?_
  rintro e w3 ⟨g, c3, rfl, hg, hc3, hc3b, hm3, hb3⟩
  have hm3h := Lib.hid (MRow.of_by hm3)
  have hgl := hm3.lt
  have hb3h := Lib.hid (hb2h.out.trans (hb3.mono hs2))
  have hs3 := hb3.size
  clear hm3 hb3 b02
  go_upto_region 4 with (fail)
  obtain ⟨x0, x1, x2⟩ := boxed w3 #[.int .i64 0, .int .i64 0, .slice none 0 0] #[.int .i64 (R : Nat), .int .i64 (C : Nat), .slice (some ⟨g, 0, none⟩) (R * C) c3] 24
  generalize World.setRow (World.alloc w3 _) _ _ = X at *
  have hX1 : w3.heap.size < X.heap.size := by omega
  have hmX := Lib.hid (hm3h.out.below x2 hgl)
  have hbX := Lib.hid (hb3h.out.trans (x2.mono (by omega)))
  have hx0h := Lib.hid (blk_of x0)
  have c0 : X.cell? ⟨w.heap.size, 0, none⟩ = some (.int .i64 (R : Nat)) := (cell_of_block (blk_heap ((blk_below hbX.out hsz).trans h0h.out))).trans rfl
  clear x0 x1 x2
  go_wp2_with fail
  refine (ki.out X).mono ?_
  rintro e w4 ⟨h, rfl, hh, he4, hb4⟩
  have he4h := Lib.hid he4
  have hhl := he4.lt
  have hb4h := Lib.hid (below_step hbX.out hbX.out.size hb4)
  have hm4h := Lib.hid (hmX.out.below hb4 (by omega))
  have hx4 := Lib.hid ((blk_below hb4 hX1).trans hx0h.out)
  have hs4 := hb4.size
  clear he4 hb4 c0
  go_upto_region 5 with (fail)
  obtain ⟨x0, x1, x2⟩ := boxed w4 #[.int .i64 0, .int .i64 0, .slice none 0 0] #[.int .i64 (R : Nat), .int .i64 0, .slice (some ⟨h, 0, none⟩) 0 0] 24
  generalize World.setRow (World.alloc w4 _) _ _ = Y at *
  have hY1 : w4.heap.size < Y.heap.size := by omega
  have hbY := Lib.hid (hb4h.out.trans (x2.mono (by omega)))
  have hI : Hid (RkAt Y Y p g h R C c3 0 w3.heap.size w4.heap.size F) := hide (by
    refine ⟨?_, he4h.out.below x2 hhl, hpW.out.below hbY.out (by omega), (blk_below x2 (by omega)).trans hx4.out, blk_of x0, Two.refl _ _ _⟩
    rw [gj_zero]; exact hm4h.out.below x2 (by omega))
  clear x0 x1 x2
  have hgW : W.heap.size ≤ g := by omega
  have hhW : W.heap.size ≤ h := by omega
  have hgh : g ≠ h := by omega
  have hpg : p ≠ g := by omega
  have hph2 : p ≠ h := by omega
  have hmg : w3.heap.size ≠ g := by omega
  have hmh : w3.heap.size ≠ h := by omega
  have hog : w4.heap.size ≠ g := by omega
  have hoh : w4.heap.size ≠ h := by omega
  have hwW : w.heap.size ≤ W.heap.size := by omega
  clear hs2 hs3 hs4 hX1 hY1 hg hh hgl hhl
  have hg0 : (gjS F R 0).1 = 0 := by rw [gj_zero]
  have hg0h := Lib.hid hg0
  clear hg0
  go_upto_region 7 with (fail)
  go_loopw [8, 9] (fun nv cv wr => ∃ c : Nat, c ≤ C ∧ cv = .int .i64 (c : Nat) ∧ nv = .int .i64 ((gjS F R c).1 : Nat) ∧ Hid (RkAt wr Y p g h R C c3 c w3.heap.size w4.heap.size F)) (fun _ cv _ => C - (intOf cv).toNat)
  case atStart => exact ⟨0, Nat.zero_le _, rfl, by rw [hg0h.out]; rfl, hI⟩
  case round =>
    obtain ⟨c, hcC, rfl, rfl, hV⟩ := hrel
    clear hI
    have bm := hV.out.bm
    have bo := hV.out.bo
    have hle := (gj_le F R c).1
    have c1 : wr.cell? ⟨w3.heap.size, 1, none⟩ = some (.int .i64 (C : Nat)) := (cell_of_block (blk_heap bm)).trans rfl
    have c0 : wr.cell? ⟨w3.heap.size, 0, none⟩ = some (.int .i64 (R : Nat)) := (cell_of_block (blk_heap bm)).trans rfl
    by_cases hlt : c < C
    · have i1 : decide ((c : Int) < (C : Int)) = true := decide_eq_true (by omega)
      by_cases hn : (gjS F R c).1 < R
      · obtain ⟨p1, p2, p3, p4⟩ := pv_facts (gjS F R c).2 c R (gjS F R c).1 (by omega)
        by_cases hk : pvF (gjS F R c).2 c R (gjS F R c).1 < R
        · have hn1 := Lib.hid (gj_yes1 F R c hn hk)
          have hbd := Lib.hid (gj_bd F hF R c)
          have hnz := Lib.hid (p3 hk)
          have kp := Lib.hid (m_pivot_yes R C c (gjS F R c).1 (pvF (gjS F R c).2 c R (gjS F R c).1) (gjS F R c).2 (some ⟨g, 0, none⟩) c3 wr hV.out.m.mat hlt hR hC hc3 p1 hk p4 (p3 hk))
          clear p3 p4
          have i2 : decide ((((gjS F R c).1 : Nat) : Int) < (R : Int)) = true := decide_eq_true (by omega)
          generalize pvF (gjS F R c).2 c R (gjS F R c).1 = k at *
          have d1 : decide ((k : Int) ≥ 0) = true := decide_eq_true (by omega)
          have hn1a := hn1.out.1
          have hn2a := Lib.hid hn1.out.2
          have hn1h := Lib.hid hn1a
          clear hn1 hn1a
          obtain ⟨q, hq⟩ : ∃ q, (gjS F R c).1 = q := ⟨_, rfl⟩
          rw [hq] at kp hn2a hn1h i2 p1 hn hle ⊢
          clear hq
          go_wp2_with fail
          refine kp.out.mono ?_
          rintro e z1 ⟨rfl, hq1⟩
          have hV1 := Lib.hid (hV.out.below hq1)
          have bm1 := hV1.out.bm
          have ks := Lib.hid (m_swap g R C q k c3 (gjS F R c).2 z1 hV1.out.m hn hk hR hC hc3)
          clear hq1 bm bo c0 c1
          go_wp2_with fail
          refine ks.out.mono ?_
          rintro e z2 ⟨rfl, hm2, hg2⟩
          have hm2h := Lib.hid hm2
          have he2h := Lib.hid (hV1.out.e.kept hg2 (fun e => hgh e.symm))
          have hp2h := Lib.hid (hV1.out.p.kept hg2 hpg)
          have bm2h := Lib.hid ((blk_kept hg2 (blk_lt hV1.out.bm) hmg).trans hV1.out.bm)
          have bo2h := Lib.hid ((blk_kept hg2 (blk_lt hV1.out.bo) hog).trans hV1.out.bo)
          have ht2h := Lib.hid (hV1.out.t.grown hg2 (.inl rfl))
          have bm2 := bm2h.out
          have bo2 := bo2h.out
          have kcl := Lib.hid (m_clear p g h R C 0 q c c3 0 (swF (gjS F R c).2 q k) (fun _ _ => 0) z2 hp2h.out hm2h.out he2h.out hgh hpg hph2 (sw_bd hbd.out q k) (fun _ _ => show (0 : Nat) < 256 by decide) hn hlt (by rw [sw_piv]; exact hnz.out) hR hC (by omega) hc3 (by omega))
          clear hm2 hg2 bm1
          go_wp2_with fail
          refine kcl.out.mono ?_
          rintro e z4 ⟨rfl, hm4, he4, ht4⟩
          rw [clear_cl, ← hn2a.out] at hm4
          have hV4 : Hid (RkAt z4 Y p g h R C c3 (c + 1) w3.heap.size w4.heap.size F) := hide
            ⟨hm4, el_none he4, two_gf ht4 hp2h.out hpg hph2, (two_blk ht4 (blk_lt bm2h.out) hmg hmh).trans bm2h.out, (two_blk ht4 (blk_lt bo2h.out) hog hoh).trans bo2h.out, ht2h.out.trans ht4⟩
          clear hm4 he4 ht4 bm2 bo2
          go_wp2_with fail
          go_roundw
          case rel => exact ⟨c + 1, by omega, by go_num, by rw [hn1h.out]; go_num, hV4⟩
          case measure => simp [intOf]; omega
        · have hs := gj_no F R c (fun h => hk h.2)
          have hsh := Lib.hid hs
          have kp := Lib.hid (m_pivot_no R C c (gjS F R c).1 (gjS F R c).2 (some ⟨g, 0, none⟩) c3 wr hV.out.m.mat hlt hR hC hc3 (by omega) (fun j h1 h2 => p4 j h1 (by omega)))
          clear p1 p2 p3 p4 hk hs
          have i2 : decide ((((gjS F R c).1 : Nat) : Int) < (R : Int)) = true := decide_eq_true (by omega)
          obtain ⟨q, hq⟩ : ∃ q, (gjS F R c).1 = q := ⟨_, rfl⟩
          have hqh := Lib.hid hq
          rw [hq] at kp i2 hn hle ⊢
          clear hq
          go_wp2_with fail
          refine kp.out.mono ?_
          rintro e z1 ⟨rfl, hq1⟩
          have hV1 := hV.out.below hq1
          have hV4 : Hid (RkAt z1 Y p g h R C c3 (c + 1) w3.heap.size w4.heap.size F) := hide ⟨by rw [hsh.out]; exact hV1.m, hV1.e, hV1.p, hV1.bm, hV1.bo, hV1.t⟩
          clear hq1 hV1 bm bo c0 c1
          go_wp2_with fail
          go_roundw
          case rel => exact ⟨c + 1, by omega, by go_num, by rw [hsh.out, hqh.out], hV4⟩
          case measure => simp [intOf]; omega
      · have hfull : Hid ((gjS F R C).1 = R) := hide (by
          have h1 : (gjS F R c).1 = R := by omega
          have h2 := gj_full F R c h1 (C - c)
          rw [show c + (C - c) = C by omega] at h2
          rw [h2, h1])
        have i2 : decide ((((gjS F R c).1 : Nat) : Int) < (R : Int)) = false := decide_eq_false (by omega)
        have i2' : decide ((gjS F R c).1 < R) = false := decide_eq_false hn
        have hqr : Hid ((gjS F R c).1 = R) := hide (by omega)
        have hB1 := Lib.hid (hBh.out.trans ((hV.out.t.to_below hbY.out (by have := hbY.out.size; omega) hgW hhW).mono hwW))
        generalize (gjS F R c).1 = q at *
        go_wp2_with fail
        go_ret
        exact ⟨by rw [hfull.out, ← hqr.out]; rfl, hB1.out⟩
    · obtain rfl : c = C := by omega
      have i1 : decide ((c : Int) < (c : Int)) = false := by simp
      have hB1 := Lib.hid (hBh.out.trans ((hV.out.t.to_below hbY.out (by have := hbY.out.size; omega) hgW hhW).mono hwW))
      go_wp2_with fail
      go_ret
      exact ⟨rfl, hB1.out⟩
end Go.Proofs.Ytkcalgolanpjaaa

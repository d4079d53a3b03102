/- The walk of the law PolyDivides: it answers true for every two polynomials. -/
import Derived.Test.YtmdpbacjcidpgaaPolyAwake
import Derived.Test.YtmdpbacjcidpgaaDiv
namespace Go.Proofs.Ytmdpbacjcidpgaa
open Go.RowKit
theorem td_two (f : Nat → Nat) (n m : Nat) (h1 : Zr n f) (h2 : Zr m f) : td f n = td f m := by
  rw [← td_more f n (max n m) h1 (by omega), ← td_more f m (max n m) h2 (by omega)]
attribute [local irreducible] gexp gtbl glog rmul rinv rpow zexp
attribute [local irreducible] td cvs cv mixF xf OwnB lbF prF lgF linF oneF fcN ev hv
theorem lit_m1 (b : Nat) : (((b + 1 : Nat) : Int) - 1) = (b : Int) := by omega
set_option maxRecDepth 100000 in
set_option maxHeartbeats 4000000 in
theorem polyDivides_walk (a0 : Option Addr) (len0 cap0 : Nat) (z0 : List Int) (a1 : Option Addr) (len1 cap1 : Nat) (z1 : List Int) (w : World) (w0 : IsRow .u8 w a0 len0 cap0 z0) (w1 : IsRow .u8 w a1 len1 cap1 z1) :
    Calls Try.prog 6 #[.slice a0 len0 cap0, .slice a1 len1 cap1] w fun e w' => e = .returned (.bool true) ∧ Below w.heap.size w w' := by
  obtain ⟨f, pf, bf, zf⟩ := pv_open w0
  obtain ⟨g, pg, bg, zg⟩ := pv_open w1
  clear w0 w1
  by_cases hs : 60 < len0 ∨ 60 < len1
  · clear pf pg
    go_enter Try.func6, Try.ntmps6
    go_wp2_with fail
    refine (po_awake w).mono ?_
    rintro e w1 ⟨rfl, hb1⟩
    go_wp2_with fail
    refine (po_short_no a0 a1 len0 len1 cap0 cap1 w1 hs).mono ?_
    rintro e w' ⟨rfl, rfl⟩
    go_wp2_with fail
    go_ret
    exact ⟨rfl, hb1⟩
  have n0 : len0 ≤ 60 := by omega
  have n1 : len1 ≤ 60 := by omega
  have pfh := Lib.hid pf
  have pgh := Lib.hid pg
  have kdg := Lib.hid (fun W (h : Pv W a1 len1 cap1 g) => r_degree a1 len1 cap1 g W h (by omega))
  by_cases hz : td g len1 = 0
  · have kd := Lib.hid (fun p W (h1 : Pv W a0 len0 cap0 f) (h2 : Pv W a1 len1 cap1 g) => p_divide_zero p a0 a1 len0 len1 cap0 cap1 f g W h1 h2 (by omega) (by omega) hz)
    rw [hz] at kdg
    clear pf pg bf bg zf zg hs hz
    go_enter Try.func6, Try.ntmps6
    go_wp2_with fail
    refine (po_awake w).mono ?_
    rintro e w1 ⟨rfl, hb1⟩
    go_wp2_with fail
    refine (po_short_yes a0 a1 len0 len1 cap0 cap1 w1 n0 n1).mono ?_
    rintro e w' ⟨rfl, rfl⟩
    go_wp2_with fail
    refine (gf_new w1).mono ?_
    rintro e w2 ⟨rfl, n, hw2⟩
    have hb2 : Below w.heap.size w w2 := by rw [hw2]; exact below_drewN (hb1.alloc hb1.size _) _
    clear hw2 hb1
    have hb2h := Lib.hid hb2
    clear hb2
    go_wp2_with fail
    refine (kd.out _ w2 (pfh.out.below hb2h.out) (pgh.out.below hb2h.out)).mono ?_
    rintro e w3 ⟨rfl, q3⟩
    have hb3 := Lib.hid (below_step hb2h.out hb2h.out.size q3)
    clear q3
    go_wp2_with fail
    refine (kdg.out w3 (pgh.out.below hb3.out)).mono ?_
    rintro e w' ⟨rfl, rfl⟩
    go_wp2_with fail
    go_ret
    exact ⟨rfl, hb3.out⟩
  obtain ⟨b, hb⟩ : ∃ b, td g len1 = b + 1 := ⟨td g len1 - 1, by omega⟩
  have hbl := td_le g len1
  have kd := Lib.hid (fun p W (hg : IsGf W p) (h1 : Pv W a0 len0 cap0 f) (h2 : Pv W a1 len1 cap1 g) => p_divide p a0 a1 len0 len1 cap0 cap1 f g W hg h1 h2 bf bg zf zg (by omega) (by omega) b hb)
  have ktr := Lib.hid (fun W (h : Pv W a0 len0 cap0 f) => p_trim a0 len0 cap0 f W h (by omega))
  have kmul := Lib.hid (fun W s nq c q (h1 : Pv W s nq c q) (h2 : Pv W a1 len1 cap1 g) bq zq (hn : nq ≤ 100) => r_mul4 s a1 nq len1 c cap1 q g W h1 h2 bq bg zq zg (by omega) (by omega))
  rw [hb, lit_m1] at kdg
  have hzf := Lib.hid zf
  have hzg := Lib.hid zg
  rw [hb] at hbl
  clear pf pg bf bg zf zg hs hz hb
  go_enter Try.func6, Try.ntmps6
  go_wp2_with fail
  refine (po_awake w).mono ?_
  rintro e w1 ⟨rfl, hb1⟩
  go_wp2_with fail
  refine (po_short_yes a0 a1 len0 len1 cap0 cap1 w1 n0 n1).mono ?_
  rintro e w' ⟨rfl, rfl⟩
  go_wp2_with fail
  refine (gf_new w1).mono ?_
  rintro e w2 ⟨rfl, n, hw2⟩
  have hg2 : IsGf w2 w1.heap.size := by rw [hw2]; exact IsGf.made w1 n
  have hb2 : Below w.heap.size w w2 := by rw [hw2]; exact below_drewN (hb1.alloc hb1.size _) _
  clear hw2 hb1
  have hb2h := Lib.hid hb2
  have hg2h := Lib.hid hg2
  clear hb2 hg2
  go_wp2_with fail
  refine (kd.out _ w2 hg2h.out (pfh.out.below hb2h.out) (pgh.out.below hb2h.out)).mono ?_
  rintro e w3 ⟨g1, c1, g2, c2, nq, nr, q, r, rfl, pq, pr, bq, br, zq, zr, tq, tr, hlt, hle, heq, q3⟩
  have hb3 := Lib.hid (below_step hb2h.out hb2h.out.size q3)
  have hfe : Hid (f = xf (cv q g) r) := hide (funext fun x => by unfold xf; exact heq x)
  have pqh := Lib.hid pq
  have prh := Lib.hid pr
  have kdr := Lib.hid (r_degree (some ⟨g2, 0, none⟩) nr c2 r w3 pr (by omega))
  have kdq := Lib.hid (r_degree (some ⟨g1, 0, none⟩) nq c1 q w3 pq (by omega))
  rw [tr] at kdr
  rw [tq] at kdq
  have k4 := Lib.hid (fun W (h : Below w3.heap.size w3 W) hm => kmul.out W _ nq c1 q (pqh.out.below h) hm bq zq (by omega))
  have k5 := Lib.hid (fun W s c (hc : Pv W s (nq + len1) c (cv q g)) (h : Below w3.heap.size w3 W) => r_add s _ (nq + len1) nr c c2 (cv q g) r W hc (prh.out.below h) (cv_bd q g) br (fun k hk => cv_zr q g nq len1 k zq hzg.out (by omega)) zr (by omega) (by omega))
  have htd : Hid (td f len0 = td f (max (nq + len1) nr)) := hide (td_two f _ _ hzf.out (by rw [hfe.out]; exact xf_zr (fun k hk => cv_zr q g nq len1 k zq hzg.out (by omega)) zr))
  rw [← hfe.out] at k5
  have kis := Lib.hid (fun W s1 s2 ca cb (h1 : Pv W s1 (td f len0) ca f) (h2 : Pv W s2 (max (nq + len1) nr) cb f) => r_is s1 s2 (td f len0) (max (nq + len1) nr) ca cb f W h1 h2 htd.out (by have := td_le f len0; omega) (by omega))
  have d1 : decide ((nr : Int) - 1 ≥ (b : Int)) = false := decide_eq_false (by omega)
  have d2 : decide ((b : Int) ≤ (nr : Int) - 1) = false := decide_eq_false (by omega)
  have d3 : decide (100 < (nq : Int)) = false := decide_eq_false (by omega)
  have d4 : decide (100 < (nr : Int)) = false := decide_eq_false (by omega)
  have kdgh := Lib.hid (kdg.out w3 (pgh.out.below hb3.out))
  clear pq pr bq br zq zr tq tr heq q3 kmul kd kdg
  go_wp2_with fail
  refine kdgh.out.mono ?_
  rintro e w' ⟨rfl, rfl⟩
  go_wp2_with fail
  refine kdr.out.mono ?_
  rintro e w' ⟨rfl, rfl⟩
  go_wp2_with fail
  refine kdgh.out.mono ?_
  rintro e w' ⟨rfl, rfl⟩
  go_wp2_with fail
  refine kdr.out.mono ?_
  rintro e w' ⟨rfl, rfl⟩
  go_wp2_with fail
  refine kdq.out.mono ?_
  rintro e w' ⟨rfl, rfl⟩
  go_wp2_with fail
  refine (ktr.out w3 (pfh.out.below hb3.out)).mono ?_
  rintro e w5 ⟨g5, c5, rfl, y1, y2, y3, y4, y5⟩
  have hb5 := Lib.hid (below_step hb3.out hb3.out.size y5)
  have y4h := Lib.hid (Pv.row y4 y2 y3)
  have y5h := Lib.hid y5
  clear y4 y5
  go_wp2_with fail
  refine (k4.out w5 y5h.out (pgh.out.below hb5.out)).mono ?_
  rintro e w6 ⟨s6, c6, rfl, x1, x2⟩
  have hb6 := Lib.hid (below_step hb5.out hb5.out.size x2)
  have hb6b := Lib.hid (below_step y5h.out y5h.out.size x2)
  have y6h := Lib.hid (y4h.out.below x2)
  have x1h := Lib.hid x1
  clear x1 x2
  go_wp2_with fail
  refine (k5.out w6 s6 c6 x1h.out hb6b.out).mono ?_
  rintro e w7 ⟨s7, c7, rfl, x3, x4⟩
  have hb7 := Lib.hid (below_step hb6.out hb6.out.size x4)
  have y7h := Lib.hid (y6h.out.below x4)
  have x3h := Lib.hid x3
  clear x3 x4
  go_wp2_with fail
  refine (kis.out w7 _ s7 c5 c7 y7h.out x3h.out).mono ?_
  rintro e w8 ⟨rfl, x5⟩
  have hb8 := Lib.hid (below_step hb7.out hb7.out.size x5)
  clear x5
  go_wp2_with fail
  go_ret
  exact ⟨rfl, hb8.out⟩
end Go.Proofs.Ytmdpbacjcidpgaa

/- The walk of the law PolyEvals: it answers true for every two polynomials and every element. -/
import Derived.Test.YtmdpbacjcidpgaaPolyAwake
namespace Go.Proofs.Ytmdpbacjcidpgaa
open Go.RowKit
theorem ev_td (f : Nat → Nat) (x n N : Nat) (hz : Zr N f) (hn : N ≤ n) : ev f x (td f n) = ev f x N := by
  have h1 := td_more f N n hz hn
  rw [h1, ← ev_stop f x (td f N) N (td_zr f N hz) (td_le f N)]
theorem evals_mul (f g : Nat → Nat) (x n m : Nat) (hx : x < 256) (hf : Bd f) (hg : Bd g) (hzf : Zr n f) (hzg : Zr m g) : ev (cv f g) x (td (cv f g) (n + m)) = rmul (ev f x n) (ev g x m) := by
  rw [ev_td (cv f g) x (n + m) (n + m) (fun k hk => cv_zr f g n m k hzf hzg (by omega)) (Nat.le_refl _)]
  exact ev_cv f g x n m (n + m) hx hf hg hzf hzg (by omega)
theorem evals_add (f g : Nat → Nat) (x n m : Nat) (hzf : Zr n f) (hzg : Zr m g) : ev (xf f g) x (td (xf f g) (max n m)) = ev f x n ^^^ ev g x m := by
  rw [ev_td (xf f g) x (max n m) (max n m) (xf_zr hzf hzg) (Nat.le_refl _)]
  have h : ev (xf f g) x (max n m) = ev f x (max n m) ^^^ ev g x (max n m) := by unfold xf; exact ev_xor f g x _
  rw [h, ev_stop f x n _ hzf (by omega), ev_stop g x m _ hzg (by omega)]
attribute [local irreducible] gexp gtbl glog rmul rinv rpow zexp
attribute [local irreducible] td cvs cv mixF xf OwnB lbF prF lgF linF oneF fcN ev hv
set_option maxRecDepth 100000 in
set_option maxHeartbeats 2000000 in
theorem polyEvals_walk (a0 : Option Addr) (len0 cap0 : Nat) (z0 : List Int) (a1 : Option Addr) (len1 cap1 : Nat) (z1 : List Int) (a2 : Int) (w : World) (w0 : IsRow .u8 w a0 len0 cap0 z0) (w1 : IsRow .u8 w a1 len1 cap1 z1) (w2 : (Lit.int .u8 a2).wf = true) :
    Calls Try.prog 4 #[.slice a0 len0 cap0, .slice a1 len1 cap1, .int .u8 a2] w fun e w' => e = .returned (.bool true) ∧ Below w.heap.size w w' := by
  obtain ⟨f, pf, bf, zf⟩ := pv_open w0
  obtain ⟨g, pg, bg, zg⟩ := pv_open w1
  obtain ⟨x, rfl, hx⟩ := u8_nat w2
  clear w0 w1 w2
  by_cases hs : 60 < len0 ∨ 60 < len1
  · clear pf pg
    go_enter Try.func4, Try.ntmps4
    go_wp2_with fail
    refine (po_awake w).mono ?_
    rintro e w1 ⟨rfl, hb1⟩
    go_wp2_with fail
    refine (po_short_no a0 a1 len0 len1 cap0 cap1 w1 hs).mono ?_
    rintro e w' ⟨rfl, rfl⟩
    go_wp2_with fail
    go_ret
    exact ⟨rfl, hb1⟩
  have n0 : len0 ≤ 60 := by omega
  have n1 : len1 ≤ 60 := by omega
  have pfh := Lib.hid pf
  have pgh := Lib.hid pg
  have k1 := Lib.hid (fun p W (hg : IsGf W p) (h : Pv W a0 len0 cap0 f) => p_eval p a0 len0 cap0 x f W hg h (by omega) hx bf)
  have k2 := Lib.hid (fun p W (hg : IsGf W p) (h : Pv W a1 len1 cap1 g) => p_eval p a1 len1 cap1 x g W hg h (by omega) hx bg)
  have k3 := Lib.hid (fun W (h : Pv W a0 len0 cap0 f) => r_eval a0 len0 cap0 x f W h.rd (by omega) hx bf)
  have l1 := td_le (cv f g) (len0 + len1)
  have l2 := td_le (xf f g) (max len0 len1)
  have k4 := Lib.hid (fun p W (hg : IsGf W p) (h : Pv W a0 len0 cap0 f) (h2 : Pv W a1 len1 cap1 g) => p_mul p a0 a1 len0 len1 cap0 cap1 f g W hg h h2 bf bg zf zg (by omega) (by omega))
  have k5 := Lib.hid (fun p W q c (hg : IsGf W p) (h : Pv W q (td (cv f g) (len0 + len1)) c (cv f g)) => p_eval p q _ c x (cv f g) W hg h (by omega) hx (cv_bd f g))
  have k6 := Lib.hid (fun W (h : Pv W a0 len0 cap0 f) (h2 : Pv W a1 len1 cap1 g) => p_add a0 a1 len0 len1 cap0 cap1 f g W h h2 bf bg zf zg (by omega) (by omega))
  have k7 := Lib.hid (fun p W q c (hg : IsGf W p) (h : Pv W q (td (xf f g) (max len0 len1)) c (xf f g)) => p_eval p q _ c x (xf f g) W hg h (by omega) hx (xf_bd bf bg))
  rw [evals_mul f g x len0 len1 hx bf bg zf zg] at k5
  rw [evals_add f g x len0 len1 zf zg] at k7
  have e1 := ev_lt f x len0
  have e2 := ev_lt g x len1
  have k8 := Lib.hid (fun W => ref_mul (ev f x len0) (ev g x len1) W e1 e2)
  have hu := xor_u8 (ev f x len0) (ev g x len1) e1 e2
  generalize ev f x len0 = y at *
  generalize ev g x len1 = z at *
  clear pf pg bf bg zf zg hs l1 l2
  go_enter Try.func4, Try.ntmps4
  go_wp2_with fail
  refine (po_awake w).mono ?_
  rintro e w1 ⟨rfl, hb1⟩
  go_wp2_with fail
  refine (po_short_yes a0 a1 len0 len1 cap0 cap1 w1 n0 n1).mono ?_
  rintro e w' ⟨rfl, rfl⟩
  go_wp2_with fail
  refine (gf_new w1).mono ?_
  rintro e w2 ⟨rfl, n, hw2⟩
  have hg2 : IsGf w2 w1.heap.size := by rw [hw2]; exact IsGf.made w1 n
  have hb2 : Below w.heap.size w w2 := by rw [hw2]; exact below_drewN (hb1.alloc hb1.size _) _
  have hpw := hg2.lt
  clear hw2 hb1
  generalize w1.heap.size = p at *
  have hg2h := Lib.hid hg2
  have hb2h := Lib.hid hb2
  clear hg2 hb2
  go_wp2_with fail
  refine (k1.out p w2 hg2h.out (pfh.out.below hb2h.out)).mono ?_
  rintro e w3 ⟨rfl, q3⟩
  have hb3 := Lib.hid (below_step hb2h.out hb2h.out.size q3)
  have hg3 := Lib.hid (hg2h.out.below q3 hg2h.out.lt)
  clear q3
  go_wp2_with fail
  refine (k2.out p w3 hg3.out (pgh.out.below hb3.out)).mono ?_
  rintro e w4 ⟨rfl, q4⟩
  have hb4 := Lib.hid (below_step hb3.out hb3.out.size q4)
  have hg4 := Lib.hid (hg3.out.below q4 hg3.out.lt)
  clear q4
  go_wp2_with fail
  refine (k3.out w4 (pfh.out.below hb4.out)).mono ?_
  rintro e w' ⟨rfl, rfl⟩
  go_wp2_with fail
  refine (k4.out p w4 hg4.out (pfh.out.below hb4.out) (pgh.out.below hb4.out)).mono ?_
  rintro e w5 ⟨g5, c5, rfl, y1, y2, y3, y4, q5⟩
  have hb5 := Lib.hid (below_step hb4.out hb4.out.size q5)
  have hg5 := Lib.hid (hg4.out.below q5 hg4.out.lt)
  have y4h := Lib.hid (Pv.row y4 y2 y3)
  clear q5 y4
  go_wp2_with fail
  refine (k5.out p w5 _ c5 hg5.out y4h.out).mono ?_
  rintro e w6 ⟨rfl, q6⟩
  have hb6 := Lib.hid (below_step hb5.out hb5.out.size q6)
  have hg6 := Lib.hid (hg5.out.below q6 hg5.out.lt)
  clear q6
  go_wp2_with fail
  refine (k8.out w6).mono ?_
  rintro e w' ⟨rfl, rfl⟩
  go_wp2_with fail
  refine (k6.out w6 (pfh.out.below hb6.out) (pgh.out.below hb6.out)).mono ?_
  rintro e w7 ⟨g7, c7, rfl, x1, x2, x3, x4, q7⟩
  have hb7 := Lib.hid (below_step hb6.out hb6.out.size q7)
  have hg7 := Lib.hid (hg6.out.below q7 hg6.out.lt)
  have x4h := Lib.hid (Pv.row x4 x2 x3)
  clear q7 x4
  go_wp2_with fail
  refine (k7.out p w7 _ c7 hg7.out x4h.out).mono ?_
  rintro e w8 ⟨rfl, q8⟩
  have hb8 := Lib.hid (below_step hb7.out hb7.out.size q8)
  clear q8
  go_wp2_with fail
  go_ret
  exact ⟨rfl, hb8.out⟩
end Go.Proofs.Ytmdpbacjcidpgaa

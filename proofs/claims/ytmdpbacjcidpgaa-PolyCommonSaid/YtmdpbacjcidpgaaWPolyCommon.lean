/- The walk of the law PolyCommon: it answers true for every three polynomials. -/
import Derived.Test.YtmdpbacjcidpgaaPolyAwake
import Derived.Test.YtmdpbacjcidpgaaComm
namespace Go.Proofs.Ytmdpbacjcidpgaa
open Go.RowKit
theorem td_zero_all (f : Nat → Nat) (n : Nat) (hz : Zr n f) (h : td f n = 0) : ∀ k, f k = 0 := fun k => by
  have := td_zr f n hz
  rw [h] at this
  exact this k (Nat.zero_le _)
theorem td_all_zero (f : Nat → Nat) (n : Nat) (h : ∀ k, f k = 0) : td f n = 0 := td_uniq _ _ 0 (fun i _ _ => h i) (fun h => absurd h (by omega)) (Nat.zero_le _)
theorem nil_rest (r : Nat → Nat) (nr : Nat) (ht : td r nr = nr) (h : ∀ k, r k = 0) : nr = 0 := by rw [← ht]; exact td_all_zero r nr h
attribute [local irreducible] gexp gtbl glog rmul rinv rpow zexp
attribute [local irreducible] td cvs cv mixF xf OwnB lbF prF lgF linF oneF fcN ev hv upd
theorem neg_nat0 (x : Nat) (h : x = 0) : decide (((x : Nat) : Int) - 1 < 0) = true := decide_eq_true (by omega)
theorem neg_nat1 (x : Nat) (h : x ≠ 0) : decide (((x : Nat) : Int) - 1 < 0) = false := decide_eq_false (by omega)
set_option maxRecDepth 100000 in
set_option maxHeartbeats 4000000 in
theorem polyCommon_walk (a0 : Option Addr) (len0 cap0 : Nat) (z0 : List Int) (a1 : Option Addr) (len1 cap1 : Nat) (z1 : List Int) (a2 : Option Addr) (len2 cap2 : Nat) (z2 : List Int) (w : World) (w0 : IsRow .u8 w a0 len0 cap0 z0) (w1 : IsRow .u8 w a1 len1 cap1 z1) (w2 : IsRow .u8 w a2 len2 cap2 z2) :
    Calls Try.prog 7 #[.slice a0 len0 cap0, .slice a1 len1 cap1, .slice a2 len2 cap2] w fun e w' => e = .returned (.bool true) ∧ Below w.heap.size w w' := by
  obtain ⟨f, pf, bf, zf⟩ := pv_open w0
  obtain ⟨g, pg, bg, zg⟩ := pv_open w1
  obtain ⟨h, ph, bh, zh⟩ := pv_open w2
  have hcx : len2 ≤ 9223372036854775807 ∧ len0 ≤ 9223372036854775807 ∧ len1 ≤ 9223372036854775807 := by
    have q0 := pf.c0; have q1 := pf.c1; have q2 := pg.c0; have q3 := pg.c1; have q4 := ph.c0; have q5 := ph.c1
    unfold maxLen at q1 q3 q5
    omega
  obtain ⟨hcx1, hcx2, hcx3⟩ := hcx
  clear w0 w1 w2
  by_cases hs : 60 < len0 ∨ 60 < len1
  · clear pf pg ph
    go_enter Try.func7, Try.ntmps7
    go_wp2_with fail
    refine (po_awake w).mono ?_
    rintro e w1 ⟨rfl, hb1⟩
    go_wp2_with fail
    refine (po_short_no a0 a1 len0 len1 cap0 cap1 w1 hs).mono ?_
    rintro e w' ⟨rfl, rfl⟩
    go_wp2_with fail
    go_ret
    exact ⟨rfl, hb1⟩
  have n0 : len0 ≤ 60 := by omega
  have n1 : len1 ≤ 60 := by omega
  by_cases hs3 : 30 < len2 ∨ 30 < len0 ∨ 30 < len1
  · have hd : decide (30 < (len2 : Int)) = true ∨ (decide (30 < (len2 : Int)) = false ∧ (decide (30 < (len0 : Int)) = true ∨ (decide (30 < (len0 : Int)) = false ∧ decide (30 < (len1 : Int)) = true))) := by
      by_cases h1 : 30 < len2
      · exact .inl (decide_eq_true (by omega))
      · by_cases h2 : 30 < len0
        · exact .inr ⟨decide_eq_false (by omega), .inl (decide_eq_true (by omega))⟩
        · exact .inr ⟨decide_eq_false (by omega), .inr ⟨decide_eq_false (by omega), decide_eq_true (by omega)⟩⟩
    clear pf pg ph hs hs3
    rcases hd with hd | ⟨hd, hd2 | ⟨hd2, hd3⟩⟩
    all_goals
      go_enter Try.func7, Try.ntmps7
      go_wp2_with fail
      refine (po_awake w).mono ?_
      rintro e w1 ⟨rfl, hb1⟩
      go_wp2_with fail
      refine (po_short_yes a0 a1 len0 len1 cap0 cap1 w1 n0 n1).mono ?_
      rintro e w' ⟨rfl, rfl⟩
      go_wp2_with fail
      go_ret
      exact ⟨rfl, hb1⟩
  have m0 : len0 ≤ 30 := by omega
  have m1 : len1 ≤ 30 := by omega
  have m2 : len2 ≤ 30 := by omega
  have pfh := Lib.hid pf
  have pgh := Lib.hid pg
  have phh := Lib.hid ph
  have kx := Lib.hid (fun W (h1 : Pv W a0 len0 cap0 f) (h2 : Pv W a2 len2 cap2 h) => r_mul4 a0 a2 len0 len2 cap0 cap2 f h W h1 h2 bf bh zf zh (by omega) (by omega))
  have ky := Lib.hid (fun W (h1 : Pv W a1 len1 cap1 g) (h2 : Pv W a2 len2 cap2 h) => r_mul4 a1 a2 len1 len2 cap1 cap2 g h W h1 h2 bg bh zg zh (by omega) (by omega))
  have zx : Zr (len0 + len2) (cv f h) := fun k hk => cv_zr f h len0 len2 k zf zh (by omega)
  have zy : Zr (len1 + len2) (cv g h) := fun k hk => cv_zr g h len1 len2 k zg zh (by omega)
  have bx := cv_bd f h
  have byy := cv_bd g h
  have dx : Dv h (cv f h) := ⟨f, len0, bf, zf, fun _ => rfl⟩
  have dy : Dv h (cv g h) := ⟨g, len1, bg, zg, fun _ => rfl⟩
  have hnz : td h len2 = 0 → (∀ k, cv f h k = 0) ∧ ∀ k, cv g h k = 0 := fun e => ⟨fun k => cv_right_zero f h k (td_zero_all h len2 zh e), fun k => cv_right_zero g h k (td_zero_all h len2 zh e)⟩
  clear bf bg zf zg hs hs3
  generalize cv f h = X at *
  generalize cv g h = Y at *
  have kdx := Lib.hid (fun W s c (hp : Pv W s (len0 + len2) c X) => r_degree s (len0 + len2) c X W hp (by omega))
  have kdy := Lib.hid (fun W s c (hp : Pv W s (len1 + len2) c Y) => r_degree s (len1 + len2) c Y W hp (by omega))
  have kco := Lib.hid (fun p W s t c1 c2 (hg : IsGf W p) (h1 : Pv W s (len0 + len2) c1 X) (h2 : Pv W t (len1 + len2) c2 Y) => p_common p s t (len0 + len2) (len1 + len2) c1 c2 X Y W hg h1 h2 bx byy zx zy (by omega) (by omega))
  have hall := Lib.hid (And.intro bh (And.intro zh (And.intro bx (And.intro byy (And.intro zx (And.intro zy (And.intro dx (And.intro dy hnz))))))))
  clear pf pg ph bh zh bx byy zx zy dx dy hnz
  go_enter Try.func7, Try.ntmps7
  go_wp2_with fail
  refine (po_awake w).mono ?_
  rintro e w1 ⟨rfl, hb1⟩
  go_wp2_with fail
  refine (po_short_yes a0 a1 len0 len1 cap0 cap1 w1 n0 n1).mono ?_
  rintro e w' ⟨rfl, rfl⟩
  go_wp2_with fail
  refine (gf_new w1).mono ?_
  rintro e w2 ⟨rfl, n, hw2⟩
  have hg2 : IsGf w2 w1.heap.size := by rw [hw2]; exact IsGf.made w1 n
  have hb2 : Below w.heap.size w w2 := by rw [hw2]; exact below_drewN (hb1.alloc hb1.size _) _
  clear hw2 hb1
  have hb2h := Lib.hid hb2
  have hg2h := Lib.hid hg2
  generalize w1.heap.size = p at *
  clear hb2 hg2
  go_wp2_with fail
  refine (kx.out w2 (pfh.out.below hb2h.out) (phh.out.below hb2h.out)).mono ?_
  rintro e w3 ⟨s3, c3, rfl, x1, x2⟩
  have hb3 := Lib.hid (below_step hb2h.out hb2h.out.size x2)
  have hg3 := Lib.hid (hg2h.out.below x2 hg2h.out.lt)
  have px3 := Lib.hid x1
  clear x1 x2
  go_wp2_with fail
  refine (ky.out w3 (pgh.out.below hb3.out) (phh.out.below hb3.out)).mono ?_
  rintro e w4 ⟨s4, c4, rfl, x1, x2⟩
  have hb4 := Lib.hid (below_step hb3.out hb3.out.size x2)
  have hg4 := Lib.hid (hg3.out.below x2 hg3.out.lt)
  have px4 := Lib.hid (px3.out.below x2)
  have py4 := Lib.hid x1
  clear x1 x2
  go_wp2_with fail
  refine (kco.out p w4 s3 s4 c3 c4 hg4.out px4.out py4.out).mono ?_
  rintro e w5 ⟨s5, n5, c5, d, rfl, hn5, pd, hcm, x2⟩
  have hb5 := Lib.hid (below_step hb4.out hb4.out.size x2)
  have hg5 := Lib.hid (hg4.out.below x2 hg4.out.lt)
  have px5 := Lib.hid (px4.out.below x2)
  have py5 := Lib.hid (py4.out.below x2)
  have pd5 := Lib.hid pd
  have hcmh := Lib.hid hcm
  clear pd hcm x2 kx ky kco
  have kd1 := Lib.hid (kdx.out w5 s3 c3 px5.out)
  have kd2 := Lib.hid (kdy.out w5 s4 c4 py5.out)
  clear kdx kdy
  by_cases hz : td X (len0 + len2) = 0 ∧ td Y (len1 + len2) = 0
  · have e0 : n5 = 0 := by
      obtain ⟨a1, a2, a3, a4, a5, a6, _⟩ := hall.out
      have hX := td_zero_all X _ a5 hz.1
      have hY := td_zero_all Y _ a6 hz.2
      have hzz : Bd (fun _ : Nat => 0) := fun _ => (by decide : 0 < 256)
      have hd := dv_none _ d (fun _ => rfl) (hcmh.out.low (fun _ => 0) hzz (dv_zero _ X hX) (dv_zero _ Y hY))
      rcases Nat.eq_zero_or_pos n5 with h0 | h0
      · exact h0
      · have := hcmh.out.top h0
        rw [hd] at this
        omega
    subst e0
    have d1 := neg_nat0 _ hz.1
    have d2 := neg_nat0 _ hz.2
    clear hz
    generalize td X (len0 + len2) = u1 at *
    generalize td Y (len1 + len2) = u2 at *
    go_wp2_with fail
    refine kd1.out.mono ?_
    rintro e w' ⟨rfl, rfl⟩
    go_wp2_with fail
    refine kd2.out.mono ?_
    rintro e w' ⟨rfl, rfl⟩
    go_wp2_with fail
    go_ret
    exact ⟨rfl, hb5.out⟩
  · have e0 : n5 ≠ 0 := fun e => hz (by
      obtain ⟨hX, hY⟩ := hcmh.out.none e
      exact ⟨td_all_zero X _ hX, td_all_zero Y _ hY⟩)
    obtain ⟨k, rfl⟩ : ∃ k, n5 = k + 1 := ⟨n5 - 1, by omega⟩
    obtain ⟨b1, off, rfl, hc⟩ := pd5.out.rd k (by omega)
    have htop : d k = 1 := by have := hcmh.out.top (by omega); rwa [Nat.add_sub_cancel] at this
    have hdd : decide (((td X (len0 + len2) : Nat) : Int) - 1 < 0) = false ∨ (decide (((td X (len0 + len2) : Nat) : Int) - 1 < 0) = true ∧ decide (((td Y (len1 + len2) : Nat) : Int) - 1 < 0) = false) := by
      by_cases h1 : td X (len0 + len2) = 0
      · exact .inr ⟨neg_nat0 _ h1, neg_nat1 _ (fun h2 => hz ⟨h1, h2⟩)⟩
      · exact .inl (neg_nat1 _ h1)
    obtain ⟨q1, q2, q3, q4, q5, q6, q7, q8, q9⟩ := hall.out
    have htd : td d (k + 1) = k + 1 := td_uniq _ _ _ (fun i h1 h2 => by omega) (fun _ => by rw [Nat.add_sub_cancel, htop]; omega) (Nat.le_refl _)
    have htd0 : d k ≠ 0 := by rw [htop]; omega
    obtain ⟨b, hb⟩ : ∃ b, td h len2 = b + 1 := ⟨td h len2 - 1, by
      have : td h len2 ≠ 0 := fun e => hz ⟨td_all_zero X _ (q9 e).1, td_all_zero Y _ (q9 e).2⟩
      omega⟩
    have hbtop : h b ≠ 0 := by have := td_top h len2 (by omega); rwa [hb, Nat.add_sub_cancel] at this
    have zhb : Zr (b + 1) h := by have := td_zr h len2 q2; rwa [hb] at this
    have dup := hcmh.out.up (by omega)
    have dlow := hcmh.out.low h q1 q7 q8
    have dbd := hcmh.out.bd
    have dzr := hcmh.out.zr
    have kv1 := Lib.hid (fun W (hg : IsGf W p) h1 h2 => p_divide p s3 (some ⟨b1, off, none⟩) (len0 + len2) (k + 1) c3 c5 X d W hg h1 h2 q3 dbd q5 dzr (by omega) (by omega) k htd)
    have kv2 := Lib.hid (fun W (hg : IsGf W p) h1 h2 => p_divide p s4 (some ⟨b1, off, none⟩) (len1 + len2) (k + 1) c4 c5 Y d W hg h1 h2 q4 dbd q6 dzr (by omega) (by omega) k htd)
    have kv3 := Lib.hid (fun W (hg : IsGf W p) h1 h2 => p_divide p (some ⟨b1, off, none⟩) a2 (k + 1) len2 c5 cap2 d h W hg h1 h2 dbd q1 dzr q2 (by omega) (by omega) b hb)
    have hr1 := Lib.hid (fun (nq nr : Nat) (q r : Nat → Nat) (bq : Bd q) (zq : Zr nq q) (zr : Zr nr r) (tr : td r nr = nr) (hlt : nr < k + 1) (he : ∀ x, X x = cv q d x ^^^ r x) => nil_rest r nr tr (rest_none X d q r k nq nr dbd dzr htd0 bq zq zr hlt he dup.1))
    have hr2 := Lib.hid (fun (nq nr : Nat) (q r : Nat → Nat) (bq : Bd q) (zq : Zr nq q) (zr : Zr nr r) (tr : td r nr = nr) (hlt : nr < k + 1) (he : ∀ x, Y x = cv q d x ^^^ r x) => nil_rest r nr tr (rest_none Y d q r k nq nr dbd dzr htd0 bq zq zr hlt he dup.2))
    have hr3 := Lib.hid (fun (nq nr : Nat) (q r : Nat → Nat) (bq : Bd q) (zq : Zr nq q) (zr : Zr nr r) (tr : td r nr = nr) (hlt : nr < b + 1) (he : ∀ x, d x = cv q h x ^^^ r x) => nil_rest r nr tr (rest_none d h q r b nq nr q1 zhb hbtop bq zq zr hlt he dlow))
    rw [htop] at hc
    have i1 : (k : Int) < (k : Int) + 1 := by omega
    have e1 : ((k : Int) + 1 == 0) = false := by simp; omega
    clear q1 q2 q3 q4 q5 q6 q7 q8 q9 htd hb hbtop zhb dup dlow dbd dzr htop htd0 hz hall hcmh e0
    generalize td X (len0 + len2) = u1 at *
    generalize td Y (len1 + len2) = u2 at *
    have hch := Lib.hid hc
    clear hc
    rcases hdd with hdd | ⟨hdd, hdd2⟩
    · have hc := hch.out
      go_wp2_with fail
      refine kd1.out.mono ?_
      rintro e w' ⟨rfl, rfl⟩
      go_wp2_with fail
      refine (kv1.out w5 hg5.out px5.out pd5.out).mono ?_
      rintro e w6 ⟨g1, v1, g2, v2, nq, nr, q, r, rfl, pq, pr, bq, br, zq, zr, tq, tr, hlt, hle, heq, x3⟩
      have z1 := hr1.out nq nr q r bq zq zr tr hlt heq
      have hb6 := Lib.hid (below_step hb5.out hb5.out.size x3)
      have hg6 := Lib.hid (hg5.out.below x3 hg5.out.lt)
      have py6 := Lib.hid (py5.out.below x3)
      have pd6 := Lib.hid (pd5.out.below x3)
      subst z1
      clear pq pr bq br zq zr tq tr hlt hle heq x3
      go_wp2_with fail
      refine (kv2.out w6 hg6.out py6.out pd6.out).mono ?_
      rintro e w7 ⟨g3, v3, g4, v4, nq2, nr2, q2, r2, rfl, pq, pr, bq, br, zq, zr, tq, tr, hlt, hle, heq, x3⟩
      have z2 := hr2.out nq2 nr2 q2 r2 bq zq zr tr hlt heq
      have hb7 := Lib.hid (below_step hb6.out hb6.out.size x3)
      have hg7 := Lib.hid (hg6.out.below x3 hg6.out.lt)
      have pd7 := Lib.hid (pd6.out.below x3)
      subst z2
      clear pq pr bq br zq zr tq tr hlt hle heq x3
      go_wp2_with fail
      refine (kv3.out w7 hg7.out pd7.out (phh.out.below hb7.out)).mono ?_
      rintro e w8 ⟨g5, v5, g6, v6, nq3, nr3, q3, r3, rfl, pq, pr, bq, br, zq, zr, tq, tr, hlt, hle, heq, x3⟩
      have z3 := hr3.out nq3 nr3 q3 r3 bq zq zr tr hlt heq
      have hb8 := Lib.hid (below_step hb7.out hb7.out.size x3)
      subst z3
      clear pq pr bq br zq zr tq tr hlt hle heq x3
      go_wp2_with fail
      go_ret
      exact ⟨rfl, hb8.out⟩
    · have hc := hch.out
      go_wp2_with fail
      refine kd1.out.mono ?_
      rintro e w' ⟨rfl, rfl⟩
      go_wp2_with fail
      refine kd2.out.mono ?_
      rintro e w' ⟨rfl, rfl⟩
      go_wp2_with fail
      refine (kv1.out w5 hg5.out px5.out pd5.out).mono ?_
      rintro e w6 ⟨g1, v1, g2, v2, nq, nr, q, r, rfl, pq, pr, bq, br, zq, zr, tq, tr, hlt, hle, heq, x3⟩
      have z1 := hr1.out nq nr q r bq zq zr tr hlt heq
      have hb6 := Lib.hid (below_step hb5.out hb5.out.size x3)
      have hg6 := Lib.hid (hg5.out.below x3 hg5.out.lt)
      have py6 := Lib.hid (py5.out.below x3)
      have pd6 := Lib.hid (pd5.out.below x3)
      subst z1
      clear pq pr bq br zq zr tq tr hlt hle heq x3
      go_wp2_with fail
      refine (kv2.out w6 hg6.out py6.out pd6.out).mono ?_
      rintro e w7 ⟨g3, v3, g4, v4, nq2, nr2, q2, r2, rfl, pq, pr, bq, br, zq, zr, tq, tr, hlt, hle, heq, x3⟩
      have z2 := hr2.out nq2 nr2 q2 r2 bq zq zr tr hlt heq
      have hb7 := Lib.hid (below_step hb6.out hb6.out.size x3)
      have hg7 := Lib.hid (hg6.out.below x3 hg6.out.lt)
      have pd7 := Lib.hid (pd6.out.below x3)
      subst z2
      clear pq pr bq br zq zr tq tr hlt hle heq x3
      go_wp2_with fail
      refine (kv3.out w7 hg7.out pd7.out (phh.out.below hb7.out)).mono ?_
      rintro e w8 ⟨g5, v5, g6, v6, nq3, nr3, q3, r3, rfl, pq, pr, bq, br, zq, zr, tq, tr, hlt, hle, heq, x3⟩
      have z3 := hr3.out nq3 nr3 q3 r3 bq zq zr tr hlt heq
      have hb8 := Lib.hid (below_step hb7.out hb7.out.size x3)
      subst z3
      clear pq pr bq br zq zr tq tr hlt hle heq x3
      go_wp2_with fail
      go_ret
      exact ⟨rfl, hb8.out⟩
end Go.Proofs.Ytmdpbacjcidpgaa

/- The contract of package poly's Divide. Conditions: the slices read as the functions named. -/
import Derived.Test.YtmdpbacjcidpgaaPoly4
namespace Go.Proofs.Ytmdpbacjcidpgaa
open Go.RowKit
theorem mix_bd (f g : Nat → Nat) (c o K : Nat) (hf : Bd f) : Bd (mixF f g c o K) := fun j => by unfold mixF; split; exact xor_lt8 (hf j) (rmul_lt _ _); exact hf j
theorem upd_bd (q : Nat → Nat) (i c : Nat) (hq : Bd q) (hc : c < 256) : Bd (upd q i c) := fun j => by unfold upd; split; exact hc; exact hq j
theorem dv_zr (f g : Nat → Nat) (j b : Nat) (hf : Bd f) (hg : Bd g) (hz : Zr (j + 1 + b) f) (ht : g b ≠ 0) : Zr (j + b) (mixF f g (rmul (f (j + b)) (rinv (g b))) j (b + 1)) := fun x hx => by
  unfold mixF
  by_cases e : x = j + b
  · subst e
    rw [if_pos (by omega), Nat.add_sub_cancel_left, div_mul _ _ (hf _) (hg b) ht, Nat.xor_self]
  · rw [if_neg (by omega)]; exact hz x (by omega)
theorem dv_eq (a f g q : Nat → Nat) (c j b x : Nat) (hz : Zr (b + 1) g) (hq : q j = 0) (h : a x = cv q g x ^^^ f x) : a x = cv (upd q j c) g x ^^^ mixF f g c j (b + 1) x := by
  rw [cv_upd q g j c x hq, h]
  unfold mixF
  by_cases h1 : j ≤ x
  · rw [if_pos h1]
    by_cases h2 : x < j + (b + 1)
    · rw [if_pos ⟨h1, h2⟩, xor4, Nat.xor_self, Nat.xor_zero]
    · rw [if_neg (by omega), hz (x - j) (by omega), rmul_zero_right, Nat.xor_zero]
  · rw [if_neg h1, if_neg (by omega), Nat.xor_zero]
theorem td_self (f : Nat → Nat) (n : Nat) : td f (td f n) = td f n := td_uniq _ _ _ (fun i h1 h2 => by omega) (td_top f n) (Nat.le_refl _)
/-- quotient and rest -/
def DivPost (W : World) (N : Nat) (a g : Nat → Nat) (lb : Nat) (e : Ending) (W' : World) : Prop :=
  ∃ (g1 c1 g2 c2 nq nr : Nat) (q r : Nat → Nat), e = .returned (.tuple #[.slice (some ⟨g1, 0, none⟩) nq c1, .slice (some ⟨g2, 0, none⟩) nr c2, .int .i64 0]) ∧
    Pv W' (some ⟨g1, 0, none⟩) nq c1 q ∧ Pv W' (some ⟨g2, 0, none⟩) nr c2 r ∧ Bd q ∧ Bd r ∧ Zr nq q ∧ Zr nr r ∧ td q nq = nq ∧ td r nr = nr ∧ nr < lb ∧ nq ≤ N ∧ (∀ x, a x = cv q g x ^^^ r x) ∧ Below W.heap.size W W'
attribute [local irreducible] gexp gtbl glog rmul rinv rpow zexp
attribute [local irreducible] td cvs cv mixF xf OwnB upd
set_option maxHeartbeats 2000000 in
theorem p_divide_zero (p : Nat) (s t : Option Addr) (n m cs ct : Nat) (f g : Nat → Nat) (w : World) (hs : Pv w s n cs f) (ht : Pv w t m ct g) (hn : n ≤ 100000) (hm : m ≤ 100000) (h0 : td g m = 0) :
    Calls Try.prog 25 #[.pointer (some ⟨p, 0, none⟩), .slice s n cs, .slice t m ct] w fun e w' => e = .returned (.tuple #[.slice none 0 0, .slice none 0 0, .int .i64 30]) ∧ Below w.heap.size w w' := by
  have k1 := Lib.hid (p_trim s n cs f w hs hn)
  have k2 := Lib.hid (fun W h => p_trim t m ct g W h hm)
  have hth := Lib.hid ht
  rw [h0] at k2
  clear hs ht h0
  go_enter Try.func25, Try.ntmps25
  go_wp2_with fail
  refine k1.out.mono ?_
  rintro e w1 ⟨g1, c1, rfl, h1, h2, h3, h4, h5⟩
  go_wp2_with fail
  refine (k2.out w1 (hth.out.below h5)).mono ?_
  rintro e w2 ⟨g2, c2, rfl, q1, q2, q3, q4, q5⟩
  have hB := h5.trans (q5.mono h5.size)
  clear h4 q4 h5 q5
  go_wp2_with fail
  go_ret3
  exact ⟨rfl, hB⟩
set_option maxHeartbeats 4000000 in
theorem p_divide (p : Nat) (s t : Option Addr) (n m cs ct : Nat) (f g : Nat → Nat) (w : World) (hgf : IsGf w p) (hs : Pv w s n cs f) (ht : Pv w t m ct g) (hf : Bd f) (hg : Bd g) (hzf : Zr n f) (hzg : Zr m g) (hn : n ≤ 100000) (hm : m ≤ 100000) (b : Nat) (hb : td g m = b + 1) :
    Calls Try.prog 25 #[.pointer (some ⟨p, 0, none⟩), .slice s n cs, .slice t m ct] w (DivPost w n f g (b + 1)) := by
  have k1 := Lib.hid (p_trim s n cs f w hs hn)
  have k2 := Lib.hid (fun W h => p_trim t m ct g W h hm)
  have hth := Lib.hid ht
  have hgfh := hide hgf
  have hpl := hgf.lt
  have l1 := td_le f n
  have l2 := td_le g m
  have zf := td_zr f n hzf
  have zg := td_zr g m hzg
  have htop := td_top g m (by omega)
  have hse := td_self f n
  rw [hb] at k2 zg l2 htop
  rw [Nat.add_sub_cancel] at htop
  clear hs ht hgf hzf hzg hb
  generalize td f n = la at *
  have d1 : (((b + 1 : Nat) : Int) == 0) = false := beq_nat1 _ (by omega)
  have d2 : ((b : Int) + 1 == 0) = false := by simpa using d1
  by_cases hlt : la < b + 1
  · have hfh := Lib.hid hf
    have zfh := Lib.hid zf
    have hseh := Lib.hid hse
    have hcz : Hid (∀ x, f x = cv (fun _ => 0) g x ^^^ f x) := hide (fun x => by rw [cv_none (fun _ => 0) g 0 (b + 1) (fun _ _ => rfl) zg (.inl (by unfold td; rfl)), Nat.zero_xor])
    have htz : Hid (td (fun _ => 0) 0 = 0) := hide (by unfold td; rfl)
    have d3 : decide (la < b + 1) = true := decide_eq_true hlt
    clear hf zf hse hg zg htop
    go_enter Try.func25, Try.ntmps25
    go_wp2_with fail
    refine k1.out.mono ?_
    rintro e w1 ⟨g1, c1, rfl, h1, h2, h3, h4, h5⟩
    go_wp2_with fail
    refine (k2.out w1 (hth.out.below h5)).mono ?_
    rintro e w2 ⟨g2, c2, rfl, q1, q2, q3, q4, q5⟩
    have hB := Lib.hid (h5.trans (q5.mono h5.size))
    have r1 := Lib.hid (h4.below q5 h4.lt)
    have ctop := FRow.cell q4 b (by omega)
    have i1 : (b : Int) < (b : Int) + 1 := by omega
    clear h4 h5 q5 q4
    go_wp2_with fail
    go_ret3
    exact ⟨w2.heap.size, 0, g1, c1, 0, la, fun _ => 0, f, rfl, Pv.row ⟨_, last_block0 w2 _ _ rfl, by simp, fun i hi => absurd hi (by omega)⟩ (Nat.le_refl _) (by unfold maxLen; omega), Pv.row (FRow.alloc r1.out _) h2 h3, (fun _ => (by decide : 0 < 256)), hfh.out, fun _ _ => rfl, zfh.out, htz.out, hseh.out, hlt, Nat.zero_le _, hcz.out, hB.out.alloc hB.out.size _⟩
  · obtain ⟨k, hk⟩ : ∃ k, la = k + b := ⟨la - b, by omega⟩
    subst hk
    have hk0 : 0 < k := by omega
    have hgh := Lib.hid hg
    have hfh := Lib.hid hf
    have zfh := Lib.hid zf
    have zgh := Lib.hid zg
    have htoph := Lib.hid htop
    have hmk : ∀ x : World, (Instr.makeSlice 24 (.int .i64 ((k : Int) + (b : Int) - ((b : Int) + 1) + 1)) (.int .i64 ((k : Int) + (b : Int) - ((b : Int) + 1) + 1))).run Try.prog x = .ok (.slice (some ⟨x.heap.size, 0, none⟩) k k) (x.alloc (.cells (madeCells #[.int .u8 0] k) 5)) := by
      intro x
      have := make_row (P := Try.prog) Try.underlying24 info8 k (by omega) (by decide) x
      have e : ((k : Int) + (b : Int) - ((b : Int) + 1) + 1) = ((k : Nat) : Int) := by omega
      rw [e]; exact this
    have d3 : decide (k + b < b + 1) = false := decide_eq_false hlt
    have hcz : Hid (∀ x, f x = cv (fun _ => 0) g x ^^^ f x) := hide (fun x => by rw [cv_none (fun _ => 0) g 0 (b + 1) (fun _ _ => rfl) zg (.inl (by unfold td; rfl)), Nat.zero_xor])
    clear hf zf hse hg zg htop
    go_enter Try.func25, Try.ntmps25
    go_wp2_with fail
    refine k1.out.mono ?_
    rintro e w1 ⟨ga, ca, rfl, h1, h2, h3, h4, h5⟩
    go_wp2_with fail
    refine (k2.out w1 (hth.out.below h5)).mono ?_
    rintro e w2 ⟨gb, cb, rfl, q1, q2, q3, q4, q5⟩
    have hB := h5.trans (q5.mono h5.size)
    have r1 := h4.below q5 h4.lt
    have s1 := h4.lt
    have s2 := q4.lt
    have s3 := q5.size
    have s4 := hB.size
    have ctop := FRow.cell q4 b (by omega)
    have i1 : (b : Int) < (b : Int) + 1 := by omega
    have hBh := Lib.hid hB
    have r2 := Lib.hid q4
    have hBz := Lib.hid ((Below.refl w2.heap.size w2).alloc (Nat.le_refl _) (.cells (madeCells #[.int .u8 0] k) 5))
    have hmd := Lib.hid (brow_made w2 k)
    have r1h := Lib.hid (FRow.alloc r1 (.cells (madeCells #[.int .u8 0] k) 5))
    clear h4 q4 h5 q5 hB k1 k2 r1
    have d4 : decide ((k : Int) + (b : Int) < (b : Int) + 1) = false := decide_eq_false (by omega)
    have hBw := Lib.hid (hBh.out.alloc hBh.out.size (.cells (madeCells #[.int .u8 0] k) 5))
    have r2w := Lib.hid (FRow.alloc r2.out (.cells (madeCells #[.int .u8 0] k) 5))
    clear hBz
    go_upto_region 8 with (fail)
    have hgq : gb < w2.heap.size := s2
    generalize w2.heap.size = gq at *
    generalize World.alloc w2 _ = V at *
    clear hmk
    go_wp2_with fail
    go_loopw [11] (fun v wr => ∃ (j : Nat) (af qf : Nat → Nat), j ≤ k ∧ v = .int .i64 ((j : Int) - 1) ∧ BRow wr ga (k + b) af ∧ BRow wr gq k qf ∧ BRow wr gb (b + 1) g ∧ Hid (Bd af ∧ Bd qf ∧ (∀ x, x < j → qf x = 0) ∧ Zr k qf ∧ Zr (j + b) af ∧ ∀ x, f x = cv qf g x ^^^ af x) ∧ Below w.heap.size w wr) (fun v _ => (intOf v + 1).toNat)
    case atStart => exact ⟨k, f, fun _ => 0, Nat.le_refl _, by go_num, r1h.out, hmd.out, r2w.out, hide ⟨hfh.out, (fun _ => (by decide : 0 < 256)), fun _ _ => rfl, fun _ _ => rfl, zfh.out, hcz.out⟩, hBw.out⟩
    case round =>
      obtain ⟨j, af, qf, hj, rfl, hra, hrq, hrb, hpr, hB⟩ := hrel
      clear r1h hmd r2w hBw hcz
      cases j with
      | zero =>
        obtain ⟨p1, p2, p3, p4, p5, p6⟩ := hpr.out
        rw [Nat.zero_add] at p5
        have t1 := td_le qf k
        have t2 : td af (k + b) ≤ b := by
          rw [td_more af b (k + b) p5 (by omega)]; exact td_le af b
        have kq := Lib.hid (p_trim (some ⟨gq, 0, none⟩) k k qf wr (Pv.row hrq (Nat.le_refl _) (by unfold maxLen; omega)) (by omega))
        have ka := Lib.hid (fun W (h : BRow W ga (k + b) af) => p_trim (some ⟨ga, 0, none⟩) (k + b) ca af W (Pv.row h h2 h3) (by omega))
        have hse1 := td_self qf k
        have hse2 := td_self af (k + b)
        have hz1 := td_zr qf k p4
        have hz2 := td_zr af (k + b) (p5.mono (by omega))
        have hfin := Lib.hid (And.intro p1 (And.intro p2 (And.intro hz1 (And.intro hz2 (And.intro hse1 (And.intro hse2 p6))))))
        have hal := hra.lt
        have hrah := Lib.hid hra
        have hBh2 := Lib.hid hB
        clear p1 p2 p3 p4 p5 p6 hpr hse1 hse2 hz1 hz2 hra hrq hrb hB
        generalize td qf k = nq at *
        generalize td af (k + b) = nr at *
        go_wp2_with fail
        refine kq.out.mono ?_
        rintro e w5 ⟨g5, c5, rfl, y1, y2, y3, y4, y5⟩
        have hB5 := Lib.hid (below_step hBh2.out hBh2.out.size y5)
        have k6 := Lib.hid (ka.out w5 (hrah.out.below y5 hal))
        have y4h := Lib.hid y4
        have y4l := y4.lt
        clear y4 y5 ka kq
        go_wp2_with fail
        refine k6.out.mono ?_
        rintro e w6 ⟨g6, c6, rfl, x1, x2, x3, x4, x5⟩
        have hB6 := Lib.hid (below_step hB5.out hB5.out.size x5)
        have z4 := Lib.hid (y4h.out.below x5 y4l)
        have x4h := Lib.hid x4
        clear x4 x5 k6
        go_wp2_with fail
        go_ret3
        obtain ⟨p1, p2, z1, z2, e1, e2, p6⟩ := hfin.out
        exact ⟨g5, c5, g6, c6, nq, nr, qf, af, rfl, Pv.row z4.out y2 y3, Pv.row x4h.out x2 x3, p2, p1, z1, z2, e1, e2, by omega, by omega, p6, hB6.out⟩
      | succ j =>
        have hj2 : j < k := by omega
        have c0 := FRow.cell hra (j + b) (by omega)
        have cq := FRow.cell hrq j hj2
        have fq := FRow.fr hrq j
        obtain ⟨p1, p2, p3, p4, p5, p6⟩ := hpr.out
        have hax := p1 (j + b)
        have hgb := hgh.out b
        have hgx := hgfh.out.below hB hpl
        have hdv := Lib.hid (gf_div p (af (j + b)) (g b) wr hgx hax hgb htoph.out)
        have hnew : Hid (Bd (mixF af g (rmul (af (j + b)) (rinv (g b))) j (b + 1)) ∧ Bd (upd qf j (rmul (af (j + b)) (rinv (g b)))) ∧ (∀ x, x < j → upd qf j (rmul (af (j + b)) (rinv (g b))) x = 0) ∧ Zr k (upd qf j (rmul (af (j + b)) (rinv (g b)))) ∧ Zr (j + b) (mixF af g (rmul (af (j + b)) (rinv (g b))) j (b + 1)) ∧ ∀ x, f x = cv (upd qf j (rmul (af (j + b)) (rinv (g b)))) g x ^^^ mixF af g (rmul (af (j + b)) (rinv (g b))) j (b + 1) x) := by
          refine ⟨mix_bd _ _ _ _ _ p1, upd_bd _ _ _ p2 (rmul_lt _ _), fun x hx => ?_, fun x hx => ?_, dv_zr af g j b p1 hgh.out (by rw [show j + 1 + b = j + 1 + b from rfl]; exact p5) htoph.out, fun x => dv_eq f af g qf _ j b x zgh.out (p3 j (by omega)) (p6 x)⟩
          · unfold upd; rw [if_neg (by omega)]; exact p3 x (by omega)
          · unfold upd; rw [if_neg (by omega)]; exact p4 x hx
        have hal := hra.lt
        have hbl := hrb.lt
        have hwg : w.heap.size ≤ ga := h1
        have i2 : (j : Int) < (k : Int) := by omega
        have i3 : (j : Int) + (b : Int) < (k : Int) + (b : Int) := by omega
        have hc := rmul_lt (af (j + b)) (rinv (g b))
        have hafb := Lib.hid p1
        have hrah := Lib.hid hra
        have hrqh := Lib.hid hrq
        have hrbh := Lib.hid hrb
        have hBh2 := Lib.hid hB
        have hgxh := Lib.hid hgx
        clear hpr p1 p2 p3 p4 p5 p6 hra hrq hrb hB hgx
        generalize rmul (af (j + b)) (rinv (g b)) = c at *
        generalize af (j + b) = y at *
        go_wp2_with fail
        refine hdv.out.mono ?_
        rintro e w' ⟨rfl, m7, rfl⟩
        have e1 : BRow ((wr.drewN m7).setCell ⟨gq, j, none⟩ (.int .u8 (c : Nat))) ga (k + b) af := FRow.other (FRow.drewN hrah.out m7) (by omega) j _
        have e2 : BRow ((wr.drewN m7).setCell ⟨gq, j, none⟩ (.int .u8 (c : Nat))) gq k (upd qf j c) := BRow.congr (BRow.set (FRow.drewN hrqh.out m7) j c) (fun x _ => by unfold upd; rfl)
        have e3 : BRow ((wr.drewN m7).setCell ⟨gq, j, none⟩ (.int .u8 (c : Nat))) gb (b + 1) g := FRow.other (FRow.drewN hrbh.out m7) (by omega) j _
        have e4 : Below w.heap.size w ((wr.drewN m7).setCell ⟨gq, j, none⟩ (.int .u8 (c : Nat))) := (below_drewN hBh2.out m7).setCell (p := ⟨gq, j, none⟩) (by show w.heap.size ≤ gq; omega) _
        have e5 := hgfh.out.below e4 hpl
        have hmix := gf_mixo p ga (k + b) j (k + b - j) (ca - j) c (some ⟨gb, 0, none⟩) (b + 1) cb af g _ e5 (by omega) e1 (by omega) hafb.out hgh.out (fun x hx _ => ⟨gb, 0, rfl, by rw [Nat.zero_add]; exact FRow.cell e3 x hx, fun e => absurd e (by omega)⟩) hc (by omega) (by omega)
        rw [show min (k + b - j) (b + 1) = b + 1 by omega] at hmix
        have hmixh := Lib.hid hmix
        have e2h := Lib.hid e2
        have e3h := Lib.hid e3
        have e4h := Lib.hid e4
        have i4 : ¬ ca = j := by omega
        have i5 : (j : Int) ≤ (k : Int) + (b : Int) := by omega
        have e2l := e2.lt
        have e3l := e3.lt
        clear e1 e2 e3 e4 e5 hmix c0
        go_wp2_with fail
        refine hmixh.out.mono ?_
        rintro e w8 ⟨rfl, x1, x2⟩
        have y2 := Lib.hid (FRow.keep e2h.out (only_blk x2 e2l (by omega)))
        have y3 := Lib.hid (FRow.keep e3h.out (only_blk x2 e3l (by omega)))
        have y4 := Lib.hid (below_of_only e4h.out x2 e4h.out.size hwg)
        have x1h := Lib.hid x1
        clear x1 x2 hmixh
        go_wp2_with fail
        go_roundw
        case rel => exact ⟨j, _, _, by omega, by go_num, x1h.out, y2.out, y3.out, hnew, y4.out⟩
        case measure => first | (simp [intOf]; done) | (simp [intOf]; omega)
end Go.Proofs.Ytmdpbacjcidpgaa

/- The contract of package poly's Mul. Conditions: the slices read as the functions named. -/
import Derived.Test.YtmdpbacjcidpgaaPoly3
namespace Go.Proofs.Ytmdpbacjcidpgaa
open Go.RowKit
attribute [local irreducible] gexp gtbl glog rmul rinv rpow zexp
theorem mix_cvs (f g : Nat → Nat) (i m j : Nat) (hg : Zr m g) : mixF (fun j => cvs f g j i) g (f i) i m j = cvs f g j (i + 1) := by
  unfold mixF
  rw [cvs]
  by_cases h : i ≤ j
  · rw [if_pos h]
    by_cases h2 : j < i + m
    · rw [if_pos ⟨h, h2⟩]
    · rw [if_neg (by omega), hg (j - i) (by omega), rmul_zero_right, Nat.xor_zero]
  · rw [if_neg h, if_neg (by omega), Nat.xor_zero]
theorem td_cv0 (f g : Nat → Nat) (N : Nat) (h : ∀ j, cv f g j = 0) : td (cv f g) N = 0 := td_uniq _ _ 0 (fun i _ _ => h i) (fun h => absurd h (by omega)) (Nat.zero_le _)
theorem td_cv (f g : Nat → Nat) (n m N a b : Nat) (hf : Bd f) (hg : Bd g) (hzf : Zr n f) (hzg : Zr m g) (hN : n + m ≤ N) (ha : td f n = a + 1) (hb : td g m = b + 1) : td (cv f g) N = a + b + 1 := by
  have z1 := td_zr f n hzf
  have z2 := td_zr g m hzg
  have t1 := td_top f n (by omega)
  have t2 := td_top g m (by omega)
  have l1 := td_le f n
  have l2 := td_le g m
  rw [ha] at z1 t1
  rw [hb] at z2 t2
  refine td_uniq _ _ _ (fun i h1 _ => cv_zr f g (a + 1) (b + 1) i z1 z2 (by omega)) (fun _ => ?_) (by omega)
  rw [Nat.add_sub_cancel, cv_top f g a b z1 z2]
  exact rmul_ne _ _ (hf a) (hg b) (by simpa using t1) (by simpa using t2)
theorem cv_none (f g : Nat → Nat) (n m : Nat) (hzf : Zr n f) (hzg : Zr m g) (h : td f n = 0 ∨ td g m = 0) (j : Nat) : cv f g j = 0 := by
  have z1 := td_zr f n hzf
  have z2 := td_zr g m hzg
  rcases h with h | h
  · rw [h] at z1
    have e : f = fun _ => 0 := funext fun i => z1 i (by omega)
    have : ∀ i, cvs f g j i = 0 := by
      intro i
      induction i with
      | zero => rfl
      | succ i ih => rw [cvs, ih, z1 i (by omega), rmul_zero_left]; split <;> rfl
    exact this _
  · rw [h] at z2
    have : ∀ i, cvs f g j i = 0 := by
      intro i
      induction i with
      | zero => rfl
      | succ i ih => rw [cvs, ih, z2 (j - i) (by omega), rmul_zero_right]; split <;> rfl
    exact this _
attribute [local irreducible] td cvs cv mixF xf OwnB
set_option maxHeartbeats 2000000 in
theorem p_mul (p : Nat) (s t : Option Addr) (n m cs ct : Nat) (f g : Nat → Nat) (w : World) (hgf : IsGf w p) (hs : Pv w s n cs f) (ht : Pv w t m ct g) (hf : Bd f) (hg : Bd g) (hzf : Zr n f) (hzg : Zr m g) (hn : n ≤ 100000) (hm : m ≤ 100000) :
    Calls Try.prog 15 #[.pointer (some ⟨p, 0, none⟩), .slice s n cs, .slice t m ct] w (RowPost w (td (cv f g) (n + m)) (cv f g)) := by
  have hgfh := hide hgf
  have hpl := hgf.lt
  have k1 := Lib.hid (p_trim s n cs f w hs hn)
  have k2 := Lib.hid (fun W h => p_trim t m ct g W h hm)
  have hth := Lib.hid ht
  have l1 := td_le f n
  have l2 := td_le g m
  by_cases hz : td f n = 0 ∨ td g m = 0
  · have h0 := td_cv0 f g (n + m) (cv_none f g n m hzf hzg hz)
    rw [h0]
    have hd : (((td f n : Nat) : Int) == 0) = true ∨ ((((td f n : Nat) : Int) == 0) = false ∧ (((td g m : Nat) : Int) == 0) = true) := by
      by_cases h : td f n = 0
      · exact .inl (beq_nat0 _ h)
      · exact .inr ⟨beq_nat1 _ h, beq_nat0 _ (by omega)⟩
    clear h0 hz hs ht hgf
    generalize td f n = a at *
    generalize td g m = b at *
    rcases hd with hd | ⟨hd, hd2⟩
    all_goals
      go_enter Try.func15, Try.ntmps15
      go_wp2_with fail
      refine k1.out.mono ?_
      rintro e w1 ⟨g1, c1, rfl, h1, h2, h3, h4, h5⟩
      go_wp2_with fail
      refine (k2.out w1 (hth.out.below h5)).mono ?_
      rintro e w2 ⟨g2, c2, rfl, q1, q2, q3, q4, q5⟩
      have hB := h5.trans (q5.mono h5.size)
      clear h4 q4 h5 q5
      go_wp2_with fail
      go_ret
      exact ⟨w2.heap.size, 0, rfl, hB.size, Nat.le_refl _, by unfold maxLen; omega, ⟨_, last_block0 w2 _ _ rfl, by simp, fun i hi => absurd hi (by omega)⟩, hB.alloc hB.size _⟩
  · obtain ⟨a, ha⟩ : ∃ a, td f n = a + 1 := ⟨td f n - 1, by omega⟩
    obtain ⟨b, hb⟩ : ∃ b, td g m = b + 1 := ⟨td g m - 1, by omega⟩
    have h0 := td_cv f g n m (n + m) a b hf hg hzf hzg (Nat.le_refl _) ha hb
    rw [h0]
    have zf := td_zr f n hzf
    have zg := td_zr g m hzg
    rw [ha] at k1 zf l1
    rw [hb] at k2 zg l2
    have d1 : (((a + 1 : Nat) : Int) == 0) = false := beq_nat1 _ (by omega)
    have d2 : (((b + 1 : Nat) : Int) == 0) = false := beq_nat1 _ (by omega)
    have d3 : ((a : Int) + 1 == 0) = false := by simpa using d1
    have d4 : ((b : Int) + 1 == 0) = false := by simpa using d2
    have hmk : ∀ x : World, (Instr.makeSlice 24 (.int .i64 ((a : Int) + 1 + ((b : Int) + 1) - 1)) (.int .i64 ((a : Int) + 1 + ((b : Int) + 1) - 1))).run Try.prog x = .ok (.slice (some ⟨x.heap.size, 0, none⟩) (a + b + 1) (a + b + 1)) (x.alloc (.cells (madeCells #[.int .u8 0] (a + b + 1)) 5)) := by
      intro x
      have := make_row (P := Try.prog) Try.underlying24 info8 (a + b + 1) (by omega) (by decide) x
      have e : ((a : Int) + 1 + ((b : Int) + 1) - 1) = ((a + b + 1 : Nat) : Int) := by omega
      rw [e]; exact this
    have hmx := Lib.hid (fun i j => mix_cvs f g i (b + 1) j zg)
    have hc0 := Lib.hid (fun j => cvs_zero f g j)
    have hca := Lib.hid (fun j => cvs_all f g j (a + 1) zf)
    have hcl := Lib.hid (fun j i => cvs_lt f g j i)
    have hfh := Lib.hid hf
    have hgh := Lib.hid hg
    clear h0 hz hs ht hgf ha hb zf zg hzf hzg hf hg
    go_enter Try.func15, Try.ntmps15
    go_wp2_with fail
    refine k1.out.mono ?_
    rintro e w1 ⟨g1, c1, rfl, h1, h2, h3, h4, h5⟩
    go_wp2_with fail
    refine (k2.out w1 (hth.out.below h5)).mono ?_
    rintro e w2 ⟨g2, c2, rfl, q1, q2, q3, q4, q5⟩
    have hB := h5.trans (q5.mono h5.size)
    have r1 := Lib.hid (h4.below q5 h4.lt)
    have r2 := Lib.hid q4
    have s1 := h4.lt
    have s2 := q4.lt
    have s3 := q5.size
    have s4 := hB.size
    have hBh := Lib.hid hB
    have hBa := Lib.hid (hB.alloc hB.size (.cells (madeCells #[.int .u8 0] (a + b + 1)) 5))
    have hBz := Lib.hid ((Below.refl w2.heap.size w2).alloc (Nat.le_refl _) (.cells (madeCells #[.int .u8 0] (a + b + 1)) 5))
    have hmd := Lib.hid (brow_made w2 (a + b + 1))
    clear h4 q4 h5 q5 hB k1 k2
    go_upto_region 5 with (fail)
    generalize World.alloc w2 _ = V at *
    generalize hqe : w2.heap.size = q at *
    have hq0 : q ≤ w2.heap.size := Nat.le_of_eq hqe.symm
    clear hqe
    clear hmk
    go_wp2_with fail
    go_loopw [32] (fun v wr => ∃ i : Nat, i ≤ a + 1 ∧ v = .int .i64 i ∧ BRow wr q (a + b + 1) (fun j => cvs f g j i) ∧ Below q w2 wr) (fun v _ => a + 1 - (intOf v).toNat)
    case atStart => exact ⟨0, Nat.zero_le _, rfl, hmd.out.congr (fun j _ => (hc0.out j).symm), hBz.out⟩
    case round =>
      obtain ⟨i, hi, rfl, hr, hB2⟩ := hrel
      clear hmd hBz hBa
      by_cases hlt : i < a + 1
      · have r1' := r1.out.below hB2 (by omega)
        have r2' := r2.out.below hB2 s2
        have c0 := FRow.cell r1' i (by omega)
        have hg2 : IsGf wr p := (hgfh.out.below hBh.out hpl).below hB2 (by omega)
        have i1 : (i : Int) < (a : Int) + 1 := by omega
        have i2 : (i : Int) ≤ (a : Int) + (b : Int) + 1 := by omega
        have i3 : ¬ a + b + 1 = i := by omega
        have hmix := gf_mixo p q (a + b + 1) i (a + b + 1 - i) (a + b + 1 - i) (f i) (some ⟨g2, 0, none⟩) (b + 1) c2 (fun j => cvs f g j i) g wr hg2 (by omega) hr (by omega) (fun j => hcl.out j i) hgh.out
          (fun j hj _ => ⟨g2, 0, rfl, by rw [Nat.zero_add]; exact FRow.cell r2' j hj, fun e => absurd e (by omega)⟩) (hfh.out i) (by omega) (by omega)
        rw [show min (a + b + 1 - i) (b + 1) = b + 1 by omega] at hmix
        have hmixh := Lib.hid hmix
        have hx := Lib.hid (fun j => hmx.out i j)
        clear hmix hg2 r1' r2' hr
        generalize f i = y at *
        go_wp2_with fail
        refine hmixh.out.mono ?_
        rintro e w5 ⟨rfl, hr5, hgr5⟩
        have hB5 : Below q w2 w5 := below_of_only hB2 hgr5 (Nat.le_trans hq0 hB2.size) (Nat.le_refl _)
        have hr6 := Lib.hid (hr5.congr (fun j _ => hx.out j))
        clear hr5 hgr5 hmixh
        go_wp2_with fail
        go_roundw
        case rel => exact ⟨i + 1, by omega, by go_num, hr6.out, hB5⟩
        case measure => simp [intOf]; omega
      · obtain rfl : i = a + 1 := by omega
        have hr2 := Lib.hid (hr.congr (fun j _ => hca.out j))
        clear hr
        go_wp2_with fail
        go_ret
        exact ⟨q, a + b + 1, rfl, s4, Nat.le_refl _, by unfold maxLen; omega, hr2.out, hBh.out.trans (hB2.mono s4)⟩
end Go.Proofs.Ytmdpbacjcidpgaa

/- The walk of the law MatrixPowers: it answers true for every input. -/
import Derived.Test.YtkcalgolanpjaaaMat18
import Derived.Test.YtkcalgolanpjaaaMatPair
import Derived.Test.YtkcalgolanpjaaaPowPlain
namespace Go.Proofs.Ytkcalgolanpjaaa
open Go.RowKit
theorem zat_ofP {w : World} {a : Option Addr} {l : List Int} (h : SlZ .i64 w a l) : ZAt w .i64 a l.length (fun i => l.getD i 0) := fun i hi => by
  obtain ⟨b, off, hs, hc⟩ := h i (l.getD i 0) (by rw [List.getD_eq_getElem?_getD, List.getElem?_eq_getElem hi]; rfl)
  exact ⟨b, off, hs, hc⟩
theorem m_pw255 (p m : Nat) (w : World) (hp : IsGf w p) (hm : m ≤ 255) :
    Calls Try.prog 25 #[.pointer (some ⟨p, 0, none⟩), .int .i64 255, .int .i64 (m : Nat)] w (fun e w' => ∃ g, e = .returned (.tuple #[.agg #[.int .i64 255, .int .i64 (m : Nat), .slice (some ⟨g, 0, none⟩) (255 * m) (255 * m)], .int .i64 0]) ∧ w.heap.size ≤ g ∧ MRow w' g 255 m pwF ∧ Below w.heap.size w w') := m_powers p 255 m w hp (by omega) hm
def pwJ (J : Nat → Int) : Nat → Nat → Nat := pkF pwF (fun i => (J i).toNat)
theorem m_pk255 (C m g : Nat) (rs : Option Addr) (rcap : Nat) (J : Nat → Int) (w : World) (ha : MAt w (some ⟨g, 0, none⟩) 255 C pwF) (hr : ZAt w .i64 rs m J) (hC : C ≤ 255) (hm : m ≤ 255) (hJ : ∀ j, j < m → 0 ≤ J j ∧ J j < 255) :
    Calls Try.prog 30 #[.agg #[.int .i64 255, .int .i64 (C : Nat), .slice (some ⟨g, 0, none⟩) (255 * C) (255 * C)], .slice rs m rcap] w (fun e w' => ∃ g, e = .returned (.tuple #[.agg #[.int .i64 (m : Nat), .int .i64 (C : Nat), .slice (some ⟨g, 0, none⟩) (m * C) (m * C)], .int .i64 0]) ∧ w.heap.size ≤ g ∧ MRow w' g m C (pwJ J) ∧ Below w.heap.size w w') :=
  (m_pick 255 C m m (some ⟨g, 0, none⟩) rs (255 * C) rcap pwF J w ha hr (by omega) hC hm (Nat.le_refl _) (Nat.le_refl _) hJ (fun h => absurd h (by omega))).mono (fun e w' h => (h.resolve_right (fun h => absurd h.1 (by omega))).2)
theorem pwJ_bd (J : Nat → Int) : Bd2 (pwJ J) := fun _ _ => pw_bd _ _
theorem pwJ_piv (J : Nat → Int) (n : Nat) (h : ∀ j, j < n → 0 ≤ J j ∧ J j < 255) (hd : ∀ j k, k < j → j < n → J j ≠ J k) (i : Nat) (hi : i < n) : pvF (ivS (pwJ J) n i).1 i n i < n :=
  pow_pivots (fun i => (J i).toNat) n (fun i hi => by have := h i hi; omega) (fun i j hi hj e => by
    have h1 := h i hi
    have h2 := h j hj
    have e2 : J i = J j := by omega
    rcases Nat.lt_trichotomy i j with hlt | he | hgt
    · exact absurd e2.symm (hd j i hlt hj)
    · exact he
    · exact absurd e2 (hd i j hgt hi)) i hi
/-- the rows ahead of i are there, and unlike -/
def goodJ (J : Nat → Int) (i : Nat) : Prop := (∀ j, j < i → 0 ≤ J j ∧ J j < 255) ∧ ∀ j k, k < j → j < i → J j ≠ J k
theorem goodJ_next {J : Nat → Int} {i : Nat} (h : goodJ J i) (h1 : 0 ≤ J i ∧ J i < 255) (h2 : ∀ k, k < i → J i ≠ J k) : goodJ J (i + 1) :=
  ⟨fun j hj => by
    by_cases e : j = i
    · subst e; exact h1
    · exact h.1 j (by omega), fun j k hk hj => by
    by_cases e : j = i
    · subst e; exact h2 k hk
    · exact h.2 j k hk (by omega)⟩
attribute [local irreducible] gexp gtbl glog rmul rinv rpow zexp mixF blk wLoad wLoadRes loadAns wStore wStoreRes storeAns Plain flF BRow MRow IsGf MAt By pkF pwF pwJ ivS mlF goodJ
attribute [local go_sem ↓] ld_m0 ld_x0 sto_m0 sto_x0
attribute [local go_sem] ld_m ld_x sto_m sto_x loadAns_some storeAns_some mx_size mx_plain blk_alloc_if blk_setRow_if blk_drew_at blk_drewN_at rowPut_some blk_setCell_if cellPut_some
set_option maxRecDepth 100000 in
set_option maxHeartbeats 8000000 in
theorem matrixPowers_walk (a0 : Option Addr) (len0 cap0 : Nat) (z0 : List Int) (w : World) (w0 : IsRow .i64 w a0 len0 cap0 z0) :
    Calls Try.prog 7 #[.slice a0 len0 cap0] w fun e w' => e = .returned (.bool true) ∧ Below w.heap.size w w' := by
  obtain ⟨l, hll, hl1, hl2, _, hsl⟩ := isRow_int w0
  subst hll
  have hz1 := zat_ofP hsl
  unfold maxLen at hl2
  obtain ⟨J, hJe⟩ : ∃ J : Nat → Int, (fun i => l.getD i 0) = J := ⟨_, rfl⟩
  rw [hJe] at hz1
  obtain ⟨m, hme⟩ : ∃ m, l.length = m := ⟨_, rfl⟩
  rw [hme] at hz1 hl1 w0 ⊢
  have hz1h := Lib.hid hz1
  have hzM := zeroM
  have hzx := zeroX
  clear w0 hsl hJe hme hz1
  go_enter Try.func7, Try.ntmps7
  have kw_w : Hid (Below w.heap.size w w) := hide (Below.refl _ _)
  go_wp2_with fail
  refine (m_awake w).mono ?_
  rintro e y1 ⟨rfl, hy⟩
  have kw_y1 := Lib.hid (below_step kw_w.out kw_w.out.size hy)
  clear hy
  by_cases hbm : 16 < m
  · have g3 : decide ((16 : Int) < (m : Int)) = true := decide_eq_true (by omega)
    have g4 : decide (16 < m) = true := decide_eq_true hbm
    have hlast := kw_y1
    go_wp2_with fail
    go_ret
    exact ⟨rfl, hlast.out⟩
  have g3 : decide ((16 : Int) < (m : Int)) = false := decide_eq_false (by omega)
  have g4 : decide (16 < m) = false := decide_eq_false hbm
  go_upto_region 6 with (fail)
  clear g3 g4
  have hJc : Hid (∀ i, i < m → ∃ b off, a0 = some ⟨b, off, none⟩ ∧ y1.cell? ⟨b, off + i, none⟩ = some (.int .i64 (J i))) := hide (fun i hi => (hz1h.out.below kw_y1.out) i hi)
  have hend : Hid (∀ n, Below w.heap.size w (y1.drewN n)) := hide (fun n => below_drewN kw_y1.out n)
  go_loopw [3] (fun v3 wr => ∃ i n : Nat, i ≤ m ∧ v3 = .int .i64 (i : Nat) ∧ wr = y1.drewN n ∧ Hid (goodJ J i)) (fun v3 _ => m - (intOf v3).toNat)
  case atStart => exact ⟨0, 0, Nat.zero_le _, rfl, rfl, hide (by unfold goodJ; exact ⟨fun j hj => absurd hj (by omega), fun j k _ hj => absurd hj (by omega)⟩)⟩
  case round =>
    obtain ⟨i, n, hi, rfl, rfl, hgood⟩ := hrel
    by_cases him : i < m
    · have i1 : (i : Int) < (m : Int) := by omega
      obtain ⟨bb, oo, hse, hrc0⟩ := hJc.out i him
      subst hse
      have hJc2 : Hid (∀ k, k < m → y1.cell? ⟨bb, oo + k, none⟩ = some (.int .i64 (J k))) := hide (fun k hk => by
        obtain ⟨b, off, h1, h2⟩ := hJc.out k hk
        injection h1 with h1
        injection h1 with h3 h4
        subst h3 h4
        exact h2)
      have hgoodn := Lib.hid (fun h1 h2 => goodJ_next hgood.out (i := i) h1 h2)
      have hJx : Hid (y1.cell? ⟨bb, oo + i, none⟩ = some (.int .i64 (J i))) := hide (hJc2.out i him)
      obtain ⟨x, hx⟩ : ∃ x, J i = x := ⟨_, rfl⟩
      rw [hx] at hJx hgoodn
      clear hx hrc0
      go_upto_region 9 with (fail)
      go_loopw [4] (fun v4 wr => ∃ k n : Nat, k ≤ i ∧ v4 = .int .i64 (k : Nat) ∧ wr = y1.drewN n ∧ Hid (∀ q, q < k → x ≠ J q)) (fun v4 _ => i - (intOf v4).toNat)
      case atStart => exact ⟨0, n, Nat.zero_le _, rfl, rfl, hide (fun q hq => absurd hq (by omega))⟩
      case round =>
        obtain ⟨k, n2, hk, rfl, rfl, hne⟩ := hrel
        have cx := hJx.out
        have lx := hend.out n2
        by_cases hki : k < i
        · have i2 : (k : Int) < (i : Int) := by omega
          have km : (k : Int) < (m : Int) := by omega
          have cy := hJc2.out k (by omega)
          have hcl := Lib.hid (fun n => hend.out n)
          obtain ⟨y, hy⟩ : ∃ y, J k = y := ⟨_, rfl⟩
          rw [hy] at cy
          have hyh := Lib.hid hy
          clear hy lx
          by_cases hxy : x = y
          · subst hxy
            have hb : (x == x) = true := by simp
            go_wp2_with fail
            go_quiet (fail)
            go_wp2_with fail
            go_ret
            exact ⟨rfl, below_drewN (hcl.out n2) _⟩
          · have hb : (x == y) = false := by simpa using hxy
            have hne2 : Hid (∀ q, q < k + 1 → x ≠ J q) := hide (fun q hq => by
              by_cases e : q = k
              · subst e; rw [hyh.out]; exact hxy
              · exact hne.out q (by omega))
            go_wp2_with fail
            go_quiet (fail)
            go_wp2_with fail
            go_roundw
            case rel => exact ⟨k + 1, _, by omega, by go_num, rfl, hne2⟩
            case measure => simp [intOf]; omega
        · obtain rfl : k = i := by omega
          have i2 : decide ((k : Int) < (k : Int)) = false := by simp
          have hlxh := Lib.hid lx
          clear lx
          by_cases hx0 : x < 0
          · have f0 : decide (x < 0) = true := decide_eq_true hx0
            go_wp2_with fail
            go_ret
            exact ⟨rfl, hlxh.out⟩
          · have f0 : decide (x < 0) = false := decide_eq_false hx0
            by_cases hx1 : 254 < x
            · have f1 : decide (254 < x) = true := decide_eq_true hx1
              go_wp2_with fail
              go_ret
              exact ⟨rfl, hlxh.out⟩
            · have f1 : decide (254 < x) = false := decide_eq_false hx1
              have hg2 := Lib.hid (hgoodn.out (by omega) hne.out)
              clear hx0 hx1
              go_wp2_with fail
              go_roundw
              case rel => exact ⟨k + 1, n2, by omega, by go_num, rfl, hg2⟩
              case measure => simp [intOf]; omega
    · obtain rfl : i = m := by omega
      have i1 : decide ((i : Int) < (i : Int)) = false := by simp
      have hz9 := Lib.hid (hz1h.out.below (hend.out n))
      have hg9 : Hid ((∀ j, j < i → 0 ≤ J j ∧ J j < 255) ∧ ∀ j k, k < j → j < i → J j ≠ J k) := hide (by have := hgood.out; unfold goodJ at this; exact this)
      have kw_u := Lib.hid (hend.out n)
      generalize y1.drewN n = u at *
      have hm : i ≤ 255 := by omega
      have hm16 : i ≤ 16 := by omega
      have hrcm := rc_le hm hm
      have hz1u := hz9
      clear hJc hend hgood hbm hrcm
      go_wp2_with fail
      refine (gf_new_below u).mono ?_
      rintro e y2 ⟨rfl, hgf, hy⟩
      obtain ⟨p, hp⟩ : ∃ p, u.heap.size = p := ⟨_, rfl⟩
      rw [hp] at hgf ⊢
      have hgfh := Lib.hid hgf
      have kw_y2 := Lib.hid (below_step kw_u.out kw_u.out.size hy)
      have ky2_y2 : Hid (Below y2.heap.size y2 y2) := hide (Below.refl _ _)
      clear hy hgf hp
      have hgfz := Lib.hid (fun z (hz : Below y2.heap.size y2 z) => hgfh.out.below hz hgfh.out.lt)
      go_wp2_with fail
      refine (m_pw255 p i y2 (hgfz.out _ ky2_y2.out) hm).mono ?_
      rintro e y3 ⟨gp, rfl, _, hmp, hy⟩
      have hmp1 := Lib.hid hmp.mat
      have hmp2 := Lib.hid (fun z (hz : Below y3.heap.size y3 z) => hmp1.out.below hz)
      have kw_y3 := Lib.hid (below_step kw_y2.out kw_y2.out.size hy)
      have ky2_y3 := Lib.hid (below_step ky2_y2.out ky2_y2.out.size hy)
      clear hy hmp hmp1
      go_upto_region 17 with (fail)
      obtain ⟨x0, x1, x2⟩ := boxed y3 #[.int .i64 0, .int .i64 0, .slice none 0 0] #[.int .i64 255, .int .i64 (i : Nat), .slice (some ⟨gp, 0, none⟩) (255 * i) (255 * i)] 24
      generalize World.setRow (World.alloc y3 _) _ _ = Xp at *
      have hlp : y3.heap.size < Xp.heap.size := by omega
      have hvp : Hid (∀ z, Below Xp.heap.size Xp z → blk z y3.heap.size = some (.cells #[.int .i64 255, .int .i64 (i : Nat), .slice (some ⟨gp, 0, none⟩) (255 * i) (255 * i)] 24 (0, 0))) := hide (fun z hz => (blk_below hz hlp).trans (blk_of x0))
      have kXp_Xp : Hid (Below Xp.heap.size Xp Xp) := hide (Below.refl _ _)
      have hmp : Hid (∀ z, Below Xp.heap.size Xp z → MAt z (some ⟨gp, 0, none⟩) 255 i pwF) := hide (fun z hz => hmp2.out z (below_step x2 x2.size hz))
      have kw_Xp := Lib.hid (below_step kw_y3.out kw_y3.out.size x2)
      have ky2_Xp := Lib.hid (below_step ky2_y3.out ky2_y3.out.size x2)
      obtain ⟨qp, hq⟩ : ∃ qp, y3.heap.size = qp := ⟨_, rfl⟩
      rw [hq] at hvp hlp ⊢
      clear x0 x1 x2 hq
      clear hmp2
      have bp := hvp.out _ kXp_Xp.out
      have hzp := Lib.hid (hz1h.out.below kw_Xp.out)
      go_wp2_with fail
      refine (m_pk255 i i gp a0 cap0 J Xp (hmp.out _ kXp_Xp.out) hzp.out hm hm hg9.out.1).mono ?_
      rintro e y4 ⟨gq, rfl, _, hmp, hy⟩
      have hmp1 := Lib.hid hmp.mat
      have hmp2 := Lib.hid (fun z (hz : Below y4.heap.size y4 z) => hmp1.out.below hz)
      have kw_y4 := Lib.hid (below_step kw_Xp.out kw_Xp.out.size hy)
      have ky2_y4 := Lib.hid (below_step ky2_Xp.out ky2_Xp.out.size hy)
      have kXp_y4 := Lib.hid (below_step kXp_Xp.out kXp_Xp.out.size hy)
      clear hy hmp hmp1
      go_upto_region 18 with (fail)
      obtain ⟨x0, x1, x2⟩ := boxed y4 #[.int .i64 0, .int .i64 0, .slice none 0 0] #[.int .i64 (i : Nat), .int .i64 (i : Nat), .slice (some ⟨gq, 0, none⟩) (i * i) (i * i)] 24
      generalize World.setRow (World.alloc y4 _) _ _ = Xq at *
      have hlq : y4.heap.size < Xq.heap.size := by omega
      have hvq : Hid (∀ z, Below Xq.heap.size Xq z → blk z y4.heap.size = some (.cells #[.int .i64 (i : Nat), .int .i64 (i : Nat), .slice (some ⟨gq, 0, none⟩) (i * i) (i * i)] 24 (0, 0))) := hide (fun z hz => (blk_below hz hlq).trans (blk_of x0))
      have kXq_Xq : Hid (Below Xq.heap.size Xq Xq) := hide (Below.refl _ _)
      have hmq : Hid (∀ z, Below Xq.heap.size Xq z → MAt z (some ⟨gq, 0, none⟩) i i (pwJ J)) := hide (fun z hz => hmp2.out z (below_step x2 x2.size hz))
      have kw_Xq := Lib.hid (below_step kw_y4.out kw_y4.out.size x2)
      have ky2_Xq := Lib.hid (below_step ky2_y4.out ky2_y4.out.size x2)
      have kXp_Xq := Lib.hid (below_step kXp_y4.out kXp_y4.out.size x2)
      obtain ⟨qq, hq⟩ : ∃ qq, y4.heap.size = qq := ⟨_, rfl⟩
      rw [hq] at hvq hlq ⊢
      clear x0 x1 x2 hq
      clear hmp2
      have bq := hvq.out _ kXq_Xq.out
      have kiv : Hid (∀ y, IsGf y p → MAt y (some ⟨gq, 0, none⟩) i i (pwJ J) → Calls Try.prog 13 #[.pointer (some ⟨p, 0, none⟩), .agg #[.int .i64 (i : Nat), .int .i64 (i : Nat), .slice (some ⟨gq, 0, none⟩) (i * i) (i * i)]] y (NewMPost y i i (ivS (pwJ J) i i).2)) := hide (fun y h1 h2 => (m_invert p i (some ⟨gq, 0, none⟩) (i * i) (pwJ J) y h1 h2 (fun h => by cases h) (pwJ_bd J) hm).mono (fun e w' h => h.1 (fun j hj => pwJ_piv J i hg9.out.1 hg9.out.2 j hj)))
      have hEb := Lib.hid (iv_bd (pwJ J) (pwJ_bd J) i i).2
      have hinv := Lib.hid (fun r c hr hc => (iv_inverse (pwJ J) (pwJ_bd J) i (fun j hj => pwJ_piv J i hg9.out.1 hg9.out.2 j hj) r c hr hc).1)
      generalize (ivS (pwJ J) i i).2 = E at *
      clear bp
      go_wp2_with fail
      refine (kiv.out Xq (hgfz.out _ ky2_Xq.out) (hmq.out _ kXq_Xq.out)).mono ?_
      rintro e y5 ⟨gv, rfl, _, hmp, hy⟩
      have hmp1 := Lib.hid hmp.mat
      have hmp2 := Lib.hid (fun z (hz : Below y5.heap.size y5 z) => hmp1.out.below hz)
      have kw_y5 := Lib.hid (below_step kw_Xq.out kw_Xq.out.size hy)
      have ky2_y5 := Lib.hid (below_step ky2_Xq.out ky2_Xq.out.size hy)
      have kXp_y5 := Lib.hid (below_step kXp_Xq.out kXp_Xq.out.size hy)
      have kXq_y5 := Lib.hid (below_step kXq_Xq.out kXq_Xq.out.size hy)
      clear hy hmp hmp1
      go_upto_region 19 with (fail)
      obtain ⟨x0, x1, x2⟩ := boxed y5 #[.int .i64 0, .int .i64 0, .slice none 0 0] #[.int .i64 (i : Nat), .int .i64 (i : Nat), .slice (some ⟨gv, 0, none⟩) (i * i) (i * i)] 24
      generalize World.setRow (World.alloc y5 _) _ _ = Xv at *
      have hlv : y5.heap.size < Xv.heap.size := by omega
      have hvv : Hid (∀ z, Below Xv.heap.size Xv z → blk z y5.heap.size = some (.cells #[.int .i64 (i : Nat), .int .i64 (i : Nat), .slice (some ⟨gv, 0, none⟩) (i * i) (i * i)] 24 (0, 0))) := hide (fun z hz => (blk_below hz hlv).trans (blk_of x0))
      have kXv_Xv : Hid (Below Xv.heap.size Xv Xv) := hide (Below.refl _ _)
      have hmv : Hid (∀ z, Below Xv.heap.size Xv z → MAt z (some ⟨gv, 0, none⟩) i i E) := hide (fun z hz => hmp2.out z (below_step x2 x2.size hz))
      have kw_Xv := Lib.hid (below_step kw_y5.out kw_y5.out.size x2)
      have ky2_Xv := Lib.hid (below_step ky2_y5.out ky2_y5.out.size x2)
      have kXp_Xv := Lib.hid (below_step kXp_y5.out kXp_y5.out.size x2)
      have kXq_Xv := Lib.hid (below_step kXq_y5.out kXq_y5.out.size x2)
      obtain ⟨qv, hq⟩ : ∃ qv, y5.heap.size = qv := ⟨_, rfl⟩
      rw [hq] at hvv hlv ⊢
      clear x0 x1 x2 hq
      clear hmp2
      have krt : Hid (∀ s k y, Calls Try.prog 14 #[.agg #[.int .i64 (i : Nat), .int .i64 (i : Nat), .slice s (i * i) k]] y (Ret y (.bool true))) := hide (fun s k y => right_nat i i hm hm ▸ x_right i i s (i * i) k y)
      have t2 := bne_cast_f i
      have bv := hvv.out _ kXv_Xv.out
      clear bq
      go_wp2_with fail
      refine (l_ref i i (some ⟨gv, 0, none⟩) (i * i) (i * i) Xv).mono ?_
      rintro e y6 ⟨rfl, hy⟩
      have kw_y6 := Lib.hid (below_step kw_Xv.out kw_Xv.out.size hy)
      have ky2_y6 := Lib.hid (below_step ky2_Xv.out ky2_Xv.out.size hy)
      have kXp_y6 := Lib.hid (below_step kXp_Xv.out kXp_Xv.out.size hy)
      have kXq_y6 := Lib.hid (below_step kXq_Xv.out kXq_Xv.out.size hy)
      have kXv_y6 := Lib.hid (below_step kXv_Xv.out kXv_Xv.out.size hy)
      clear hy bv
      go_wp2_with fail
      refine (krt.out _ _ y6).mono ?_
      rintro e y7 ⟨rfl, hy⟩
      have kw_y7 := Lib.hid (below_step kw_y6.out kw_y6.out.size hy)
      have ky2_y7 := Lib.hid (below_step ky2_y6.out ky2_y6.out.size hy)
      have kXp_y7 := Lib.hid (below_step kXp_y6.out kXp_y6.out.size hy)
      have kXq_y7 := Lib.hid (below_step kXq_y6.out kXq_y6.out.size hy)
      have kXv_y7 := Lib.hid (below_step kXv_y6.out kXv_y6.out.size hy)
      clear hy
      have bv := hvv.out _ kXv_y7.out
      have bq := hvq.out _ kXq_y7.out
      have cv1 : y7.cell? ⟨qv, 1, none⟩ = some (.int .i64 (i : Nat)) := (cell_of_block (blk_heap bv)).trans rfl
      have cq0 : y7.cell? ⟨qq, 0, none⟩ = some (.int .i64 (i : Nat)) := (cell_of_block (blk_heap bq)).trans rfl
      go_wp2_with fail
      refine (l_ref i i (some ⟨gq, 0, none⟩) (i * i) (i * i) y7).mono ?_
      rintro e y8 ⟨rfl, hy⟩
      have kw_y8 := Lib.hid (below_step kw_y7.out kw_y7.out.size hy)
      have ky2_y8 := Lib.hid (below_step ky2_y7.out ky2_y7.out.size hy)
      have kXp_y8 := Lib.hid (below_step kXp_y7.out kXp_y7.out.size hy)
      have kXq_y8 := Lib.hid (below_step kXq_y7.out kXq_y7.out.size hy)
      have kXv_y8 := Lib.hid (below_step kXv_y7.out kXv_y7.out.size hy)
      clear hy bv bq cv1 cq0
      go_wp2_with fail
      refine (krt.out _ _ y8).mono ?_
      rintro e y9 ⟨rfl, hy⟩
      have kw_y9 := Lib.hid (below_step kw_y8.out kw_y8.out.size hy)
      have ky2_y9 := Lib.hid (below_step ky2_y8.out ky2_y8.out.size hy)
      have kXp_y9 := Lib.hid (below_step kXp_y8.out kXp_y8.out.size hy)
      have kXq_y9 := Lib.hid (below_step kXq_y8.out kXq_y8.out.size hy)
      have kXv_y9 := Lib.hid (below_step kXv_y8.out kXv_y8.out.size hy)
      clear hy
      have hrc : i * i ≤ 100000000 := Nat.le_trans (rc_le hm hm) (by decide)
      go_upto_region 21 with (fail)
      have hS : Hid (∀ y, Below Xv.heap.size Xv y → (fun y : World => blk y qv = some (.cells #[.int .i64 (i : Nat), .int .i64 (i : Nat), .slice (some ⟨gv, 0, none⟩) (i * i) (i * i)] 24 (0, 0)) ∧ blk y qq = some (.cells #[.int .i64 (i : Nat), .int .i64 (i : Nat), .slice (some ⟨gq, 0, none⟩) (i * i) (i * i)] 24 (0, 0))) y) := hide (fun y hy => ⟨hvv.out y hy, hvq.out y (below_step kXq_Xv.out kXq_Xv.out.size hy)⟩)
      have kXv_d : Hid (Below Xv.heap.size Xv y9.drew) := hide (below_drewN kXv_y9.out 1)
      refine h_begin 10 (fun y : World => blk y qv = some (.cells #[.int .i64 (i : Nat), .int .i64 (i : Nat), .slice (some ⟨gv, 0, none⟩) (i * i) (i * i)] 24 (0, 0)) ∧ blk y qq = some (.cells #[.int .i64 (i : Nat), .int .i64 (i : Nat), .slice (some ⟨gq, 0, none⟩) (i * i) (i * i)] 24 (0, 0))) rfl (by kernel_rfl) (hS.out _ kXv_d.out) ?_
      have hHeld : (fun y : World => blk y qv = some (.cells #[.int .i64 (i : Nat), .int .i64 (i : Nat), .slice (some ⟨gv, 0, none⟩) (i * i) (i * i)] 24 (0, 0)) ∧ blk y qq = some (.cells #[.int .i64 (i : Nat), .int .i64 (i : Nat), .slice (some ⟨gq, 0, none⟩) (i * i) (i * i)] 24 (0, 0))) y9.drew := hS.out _ kXv_d.out
      first
        | (refine h_run (i := 0) (v := ?_) hHeld rfl (by kernel_rfl) (by kernel_rfl) (by kernel_rfl) ?_ ?_ ?_
           rotate_left
           · rfl
           · (intro x hSx; (try dsimp only at hSx); go_simp <;> with_reducible rfl)
           simp only [Act.put, List.setIfInBounds_toArray, List.set_cons_zero, List.set_cons_succ])
        | (refine h_skip (i := 0) hHeld rfl (by kernel_rfl) (by kernel_rfl) (by kernel_rfl) ?_ ?_
           · rfl
           simp only [Act.put, List.setIfInBounds_toArray, List.set_cons_zero, List.set_cons_succ])
      first
        | (refine h_run (i := 2) (v := ?_) hHeld rfl (by kernel_rfl) (by kernel_rfl) (by kernel_rfl) ?_ ?_ ?_
           rotate_left
           · rfl
           · (intro x hSx; (try dsimp only at hSx); go_simp <;> with_reducible rfl)
           simp only [Act.put, List.setIfInBounds_toArray, List.set_cons_zero, List.set_cons_succ])
        | (refine h_skip (i := 2) hHeld rfl (by kernel_rfl) (by kernel_rfl) (by kernel_rfl) ?_ ?_
           · rfl
           simp only [Act.put, List.setIfInBounds_toArray, List.set_cons_zero, List.set_cons_succ])
      first
        | (refine h_run (i := 5) (v := ?_) hHeld rfl (by kernel_rfl) (by kernel_rfl) (by kernel_rfl) ?_ ?_ ?_
           rotate_left
           · rfl
           · (intro x hSx; (try dsimp only at hSx); go_simp <;> with_reducible rfl)
           simp only [Act.put, List.setIfInBounds_toArray, List.set_cons_zero, List.set_cons_succ])
        | (refine h_skip (i := 5) hHeld rfl (by kernel_rfl) (by kernel_rfl) (by kernel_rfl) ?_ ?_
           · rfl
           simp only [Act.put, List.setIfInBounds_toArray, List.set_cons_zero, List.set_cons_succ])
      first
        | (refine h_run (i := 6) (v := ?_) hHeld rfl (by kernel_rfl) (by kernel_rfl) (by kernel_rfl) ?_ ?_ ?_
           rotate_left
           · rfl
           · (intro x hSx; (try dsimp only at hSx); go_simp <;> with_reducible rfl)
           simp only [Act.put, List.setIfInBounds_toArray, List.set_cons_zero, List.set_cons_succ])
        | (refine h_skip (i := 6) hHeld rfl (by kernel_rfl) (by kernel_rfl) (by kernel_rfl) ?_ ?_
           · rfl
           simp only [Act.put, List.setIfInBounds_toArray, List.set_cons_zero, List.set_cons_succ])
      clear hHeld
      have kw_d : Hid (Below w.heap.size w y9.drew) := hide (below_drewN kw_y9.out 1)
      have kXq_d : Hid (Below Xq.heap.size Xq y9.drew) := hide (below_drewN kXq_y9.out 1)
      generalize y9.drew = d at *
      refine h_call (i := 1) (fun y : World => blk y qv = some (.cells #[.int .i64 (i : Nat), .int .i64 (i : Nat), .slice (some ⟨gv, 0, none⟩) (i * i) (i * i)] 24 (0, 0)) ∧ blk y qq = some (.cells #[.int .i64 (i : Nat), .int .i64 (i : Nat), .slice (some ⟨gq, 0, none⟩) (i * i) (i * i)] 24 (0, 0))) (fun _ h => h) (l_ref i i (some ⟨gv, 0, none⟩) (i * i) (i * i) d) rfl (by kernel_rfl) rfl ?_ ?_
      · go_simp <;> with_reducible rfl
      rintro e y10 ⟨rfl, hy⟩
      have kw_y10 := Lib.hid (below_step kw_d.out kw_d.out.size hy)
      have kXq_y10 := Lib.hid (below_step kXq_d.out kXq_d.out.size hy)
      have kXv_y10 := Lib.hid (below_step kXv_d.out kXv_d.out.size hy)
      refine ⟨_, rfl, hS.out _ kXv_y10.out, ?_⟩
      clear hy
      refine h_call (i := 3) (fun y : World => blk y qv = some (.cells #[.int .i64 (i : Nat), .int .i64 (i : Nat), .slice (some ⟨gv, 0, none⟩) (i * i) (i * i)] 24 (0, 0)) ∧ blk y qq = some (.cells #[.int .i64 (i : Nat), .int .i64 (i : Nat), .slice (some ⟨gq, 0, none⟩) (i * i) (i * i)] 24 (0, 0))) (fun _ h => h) (l_ref i i (some ⟨gq, 0, none⟩) (i * i) (i * i) y10) rfl (by kernel_rfl) rfl ?_ ?_
      · go_simp <;> with_reducible rfl
      rintro e y11 ⟨rfl, hy⟩
      have kw_y11 := Lib.hid (below_step kw_y10.out kw_y10.out.size hy)
      have kXq_y11 := Lib.hid (below_step kXq_y10.out kXq_y10.out.size hy)
      have kXv_y11 := Lib.hid (below_step kXv_y10.out kXv_y10.out.size hy)
      refine ⟨_, rfl, hS.out _ kXv_y11.out, ?_⟩
      clear hy
      refine h_call (i := 4) (fun y : World => blk y qv = some (.cells #[.int .i64 (i : Nat), .int .i64 (i : Nat), .slice (some ⟨gv, 0, none⟩) (i * i) (i * i)] 24 (0, 0)) ∧ blk y qq = some (.cells #[.int .i64 (i : Nat), .int .i64 (i : Nat), .slice (some ⟨gq, 0, none⟩) (i * i) (i * i)] 24 (0, 0))) (fun _ h => h) ((x_mul i i i (some ⟨gv, 0, none⟩) (some ⟨gq, 0, none⟩) (i * i) (i * i) E (pwJ J) y11 (hmv.out _ kXv_y11.out) (hmq.out _ kXq_y11.out) hEb.out (pwJ_bd J) hm hm hm).mono (fun e w' h => XPost.congr h hinv.out)) rfl (by kernel_rfl) rfl ?_ ?_
      · go_simp <;> with_reducible rfl
      rintro e y13 ⟨sm, cm, rfl, hmm, _, _, hy⟩
      have hmm1 := Lib.hid hmm.by
      clear hmm
      have kw_y13 := Lib.hid (below_step kw_y11.out kw_y11.out.size hy)
      have kXq_y13 := Lib.hid (below_step kXq_y11.out kXq_y11.out.size hy)
      have kXv_y13 := Lib.hid (below_step kXv_y11.out kXv_y11.out.size hy)
      refine ⟨_, rfl, hS.out _ kXv_y13.out, ?_⟩
      clear hy
      refine h_call (i := 7) (fun y : World => blk y qv = some (.cells #[.int .i64 (i : Nat), .int .i64 (i : Nat), .slice (some ⟨gv, 0, none⟩) (i * i) (i * i)] 24 (0, 0)) ∧ blk y qq = some (.cells #[.int .i64 (i : Nat), .int .i64 (i : Nat), .slice (some ⟨gq, 0, none⟩) (i * i) (i * i)] 24 (0, 0))) (fun _ h => h) (x_identity i y13 hm) rfl (by kernel_rfl) rfl ?_ ?_
      · go_simp <;> with_reducible rfl
      rintro e y14 ⟨si, ci, rfl, hmi, _, _, hy⟩
      have hmm2 := Lib.hid (hmm1.out.below hy)
      have hmi1 := Lib.hid hmi.by
      clear hmi
      have kw_y14 := Lib.hid (below_step kw_y13.out kw_y13.out.size hy)
      have kXq_y14 := Lib.hid (below_step kXq_y13.out kXq_y13.out.size hy)
      have kXv_y14 := Lib.hid (below_step kXv_y13.out kXv_y13.out.size hy)
      refine ⟨_, rfl, hS.out _ kXv_y14.out, ?_⟩
      clear hy
      refine h_call (i := 8) (fun y : World => blk y qv = some (.cells #[.int .i64 (i : Nat), .int .i64 (i : Nat), .slice (some ⟨gv, 0, none⟩) (i * i) (i * i)] 24 (0, 0)) ∧ blk y qq = some (.cells #[.int .i64 (i : Nat), .int .i64 (i : Nat), .slice (some ⟨gq, 0, none⟩) (i * i) (i * i)] 24 (0, 0))) (fun _ h => h) (x_same i i sm si cm ci (i * i) (flF i idF) y14 hmm2.out hmi1.out hrc) rfl (by kernel_rfl) rfl ?_ ?_
      · go_simp <;> with_reducible rfl
      rintro e y15 ⟨rfl, hy⟩
      have kw_y15 := Lib.hid (below_step kw_y14.out kw_y14.out.size hy)
      have kXq_y15 := Lib.hid (below_step kXq_y14.out kXq_y14.out.size hy)
      have kXv_y15 := Lib.hid (below_step kXv_y14.out kXv_y14.out.size hy)
      refine ⟨_, rfl, hS.out _ kXv_y15.out, ?_⟩
      clear hy
      have hHeld : (fun y : World => blk y qv = some (.cells #[.int .i64 (i : Nat), .int .i64 (i : Nat), .slice (some ⟨gv, 0, none⟩) (i * i) (i * i)] 24 (0, 0)) ∧ blk y qq = some (.cells #[.int .i64 (i : Nat), .int .i64 (i : Nat), .slice (some ⟨gq, 0, none⟩) (i * i) (i * i)] 24 (0, 0))) y15 := hS.out _ kXv_y15.out
      first
        | (refine h_run (i := 9) (v := ?_) hHeld rfl (by kernel_rfl) (by kernel_rfl) (by kernel_rfl) ?_ ?_ ?_
           rotate_left
           · rfl
           · (intro x hSx; (try dsimp only at hSx); go_simp <;> with_reducible rfl)
           simp only [Act.put, List.setIfInBounds_toArray, List.set_cons_zero, List.set_cons_succ])
        | (refine h_skip (i := 9) hHeld rfl (by kernel_rfl) (by kernel_rfl) (by kernel_rfl) ?_ ?_
           · rfl
           simp only [Act.put, List.setIfInBounds_toArray, List.set_cons_zero, List.set_cons_succ])
      clear hHeld
      refine h_done (by kernel_rfl) ?_
      have hlast := kw_y15
      go_wp2_with fail
      go_ret
      exact ⟨rfl, hlast.out⟩
end Go.Proofs.Ytkcalgolanpjaaa

/- The walk of the law PacerShares: it answers true for every rate and every weights. -/
import Derived.Test.YtchpiiccdoejdaaPacer5
import Derived.Test.YtchpiiccdoejdaaShare4
import Derived.BigQuiet
namespace Go.Proofs.Ytchpiiccdoejdaa
open Go.RowKit
/-- what the law says of the rate and the weights, as far as k of them -/
def okL (R : Int) (l : List Int) (k : Nat) : Bool := decide (0 ≤ R ∧ R ≤ 1048576 ∧ l.length ≤ 256) && (List.range k).all fun j => decide (0 ≤ gZ l j) && decide (gZ l j ≤ 65536)
theorem okL_zero (R : Int) (l : List Int) : okL R l 0 = decide (0 ≤ R ∧ R ≤ 1048576 ∧ l.length ≤ 256) := by simp [okL]
theorem okL_succ (R : Int) (l : List Int) (k : Nat) : okL R l (k + 1) = (okL R l k && (decide (0 ≤ gZ l k) && decide (gZ l k ≤ 65536))) := by
  unfold okL
  rw [List.range_succ, List.all_append, Bool.and_assoc]
  simp
theorem okL_iff (R : Int) (l : List Int) (k : Nat) : okL R l k = true ↔ (0 ≤ R ∧ R ≤ 1048576 ∧ l.length ≤ 256) ∧ ∀ j, j < k → 0 ≤ gZ l j ∧ gZ l j ≤ 65536 := by
  unfold okL; simp
theorem tm_bd (x : Int) : -65536 ≤ x.tmod 65537 ∧ x.tmod 65537 ≤ 65536 ∧ (0 ≤ x → x ≤ 65536 → x.tmod 65537 = x) := by
  have h := Int.tmod_eq_emod (a := x) (b := 65537)
  have m0 := Int.emod_nonneg x (show (65537 : Int) ≠ 0 by decide)
  have m1 := Int.emod_lt_of_pos x (show (0 : Int) < 65537 by decide)
  refine ⟨?_, ?_, fun a b => ?_⟩
  · split at h <;> simp at h <;> omega
  · split at h <;> simp at h <;> omega
  · rw [if_pos (.inl a)] at h; omega
theorem sv_bd (R : Int) (f : Nat → Int) (n k : Nat) (hk : k ≤ n) (hR : 0 ≤ R) (hR1 : R ≤ 1048576) (hf : ∀ i, i < n → 0 ≤ f i ∧ f i ≤ 65536) (hS : 0 < smF f n) : 0 ≤ smF (shV R (smF f n) f n) k ∧ smF (shV R (smF f n) f n) k ≤ R := by
  have hv : ∀ i, i < n → 0 ≤ shV R (smF f n) f n i := fun i hi => (shV_bd R f n i hR hR1 (hf i hi).1 (hf i hi).2 hS).1
  have a := smF_mono _ n hv n (Nat.le_refl _) k hk
  rw [sum_all R f n hR hS (fun i hi => (hf i hi).1)] at a
  have b := smF_mono _ n hv k hk 0 (Nat.zero_le _)
  rw [smF_zero] at b
  exact ⟨b, a⟩
attribute [local irreducible] smF ctF shB shL shV ltK mkL shT shR rowZ gZ okL
set_option maxRecDepth 100000 in
set_option maxHeartbeats 4000000 in
theorem pacerShares_walk (a0 : Int) (a1 : Option Addr) (len1 cap1 : Nat) (z1 : List Int) (w : World) (w0 : (Lit.int .i64 a0).wf = true) (w1 : IsRow .i64 w a1 len1 cap1 z1) :
    Calls Try.prog 3 #[.int .i64 a0, .slice a1 len1 cap1] w fun e w' => e = .returned (.bool true) ∧ Below w.heap.size w w' := by
  obtain ⟨l, hl, hlc, hcm, hb, hs⟩ := isRow_int w1
  clear w0 w1
  subst hl
  have hsh := hide hs
  have hlm : l.length ≤ 9223372036854775807 := by unfold maxLen at hcm; omega
  clear hcm hlc hs hb
  by_cases hbig : 1000 < l.length
  · have d0 : decide ((1000 : Int) < (l.length : Int)) = true := decide_eq_true (by omega)
    go_enter Try.func3, Try.ntmps3
    go_wp2_with fail
    refine (pc_awake w).mono ?_
    rintro e w1 ⟨rfl, hb1⟩
    go_wp2_with fail
    go_ret
    exact ⟨rfl, hb1⟩
  have d0 : decide ((1000 : Int) < (l.length : Int)) = false := decide_eq_false (by omega)
  by_cases hok : shOk a0 (gZ l) l.length
  · obtain ⟨hR, hR1, hn, hf, hS0⟩ := id hok
    have hS := (smF_bd (gZ l) l.length hf l.length (Nat.le_refl _)).1
    have hS1 : 0 < smF (gZ l) l.length := by omega
    have hsum := Lib.hid (sum_all a0 (gZ l) l.length hR hS1 (fun i hi => (hf i hi).1))
    have hsv := Lib.hid (fun k hk => sv_bd a0 (gZ l) l.length k hk hR hR1 hf hS1)
    have hbd := Lib.hid (fun k hk => smF_bd (gZ l) l.length hf k hk)
    have hfh := hide hf
    have hsz := Lib.hid (fun i => share_zero a0 (smF (gZ l) l.length) (gZ l) l.length i)
    have hS0b : (smF (gZ l) l.length == 0) = false := by simp; exact hS0
    have k1 := Lib.hid (fun (X : World) (h : SlZ .i64 X a1 l) => s_share_ok a0 a1 cap1 l X h hf hn hR hR1 hS1)
    have k2 := Lib.hid (fun (X : World) (h : SlZ .i64 X a1 l) => r_share a0 a1 cap1 l X h hok)
    have d1 : decide (a0 ≥ 0) = true := decide_eq_true hR
    have d2 : decide (a0 ≤ 1048576) = true := decide_eq_true hR1
    have d3 : decide ((l.length : Int) ≤ 256) = true := decide_eq_true (by omega)
    clear hok hf hS0 hS hS1 hbig
    go_enter Try.func3, Try.ntmps3
    go_wp2_with fail
    refine (pc_awake w).mono ?_
    rintro e w1 ⟨rfl, hb1⟩
    go_wp2_with fail
    refine (k1.out w1 (hsh.out.below hb1)).mono ?_
    intro e w2 hpost
    generalize hV : shV a0 (smF (gZ l) l.length) (gZ l) l.length = V at *
    have hml : (mkL l.length V).length = l.length := mkL_length _ _
    obtain ⟨g, hg, rfl, hown, hb2⟩ := hpost
    rw [hml] at hown ⊢
    have hsl := hide (own_slZ hown)
    have hB2 := hb1.trans (hb2.mono hb1.size)
    clear hown hb1 hb2 hml hg
    go_wp2_with fail
    go_loop [7, 8, 9] (fun o v i => ∃ k : Nat, k ≤ l.length ∧ i = .int .i64 k ∧ o = .bool true ∧ v = .int .i64 (smF (gZ l) k)) (fun _ _ i => l.length - (intOf i).toNat)
    case atStart => exact ⟨0, by omega, rfl, rfl, by rw [smF_zero]⟩
    case round =>
      obtain ⟨k, hk, rfl, rfl, rfl⟩ := hrel
      by_cases hlt : k < l.length
      · obtain ⟨x, hx⟩ : ∃ x, l[k]? = some x := ⟨_, List.getElem?_eq_getElem hlt⟩
        obtain ⟨b, off, rfl, hc⟩ := (hsh.out.below hB2) k x hx
        have hgk := gZ_of hx
        have hb2 := hfh.out k hlt
        have he := smF_succ (gZ l) k
        obtain ⟨q2, q3⟩ := hbd.out k hk
        rw [hgk] at hb2 he
        obtain ⟨q0, q1⟩ := hb2
        have htm := (tm_bd x).2.2 q0 q1
        have e1 : decide (x ≥ 0) = true := decide_eq_true q0
        have e2 : decide (x ≤ 65536) = true := decide_eq_true q1
        have i1 : (k : Int) < (l.length : Int) := by omega
        have heh := Lib.hid he
        clear hx hgk he
        go_wp2_with fail
        go_round
        case rel => exact ⟨k + 1, by omega, by go_num, rfl, by rw [heh.out]⟩
        case measure => simp [intOf]; omega
      · obtain rfl : k = l.length := by omega
        go_wp2_with fail
        refine (k2.out w2 (hsh.out.below hB2)).mono ?_
        intro e w3 hpost
        have hml : (mkL l.length V).length = l.length := mkL_length _ _
        obtain ⟨g2, cp2, hg2, rfl, hown, hb3⟩ := hpost
        rw [hml] at hown ⊢
        have hsl2 := hide (own_slZ hown)
        have hsl1 := hide (hsl.out.below hb3)
        have hB3 := hB2.trans (hb3.mono hB2.size)
        have hs3 := hide (hsh.out.below hB3)
        clear hown hb3 hml hg2 hsl k2 k1 hB2
        go_wp2_with fail
        go_loopw [11, 12] (fun v i wr => ∃ k : Nat, k ≤ l.length ∧ i = .int .i64 k ∧ v = .int .i64 (smF V k) ∧ Hid (SlZ .i64 wr a1 l ∧ SlZ .i64 wr (some ⟨g, 0, none⟩) (mkL l.length V) ∧ SlZ .i64 wr (some ⟨g2, 0, none⟩) (mkL l.length V) ∧ Below w.heap.size w wr)) (fun _ i _ => l.length - (intOf i).toNat)
        case atStart => exact ⟨0, by omega, rfl, by rw [smF_zero], hide ⟨hs3.out, hsl1.out, hsl2.out, hB3⟩⟩
        case round =>
          obtain ⟨k, hk, rfl, rfl, hall⟩ := hrel
          clear hs3 hsl1 hsl2 hB3
          by_cases hlt : k < l.length
          · obtain ⟨x, hx⟩ : ∃ x, l[k]? = some x := ⟨_, List.getElem?_eq_getElem hlt⟩
            obtain ⟨b, off, rfl, hc⟩ := hall.out.1 k x hx
            obtain ⟨b1, off1, e1, hc1⟩ := hall.out.2.1 k (V k) (mkL_get _ _ _ hlt)
            obtain ⟨b2, off2, e2, hc2⟩ := hall.out.2.2.1 k (V k) (mkL_get _ _ _ hlt)
            cases e1
            cases e2
            rw [Nat.zero_add] at hc1 hc2
            have hgk := gZ_of hx
            have hzz : x = 0 → V k = 0 := fun h => hsz.out k (by rw [hgk]; exact h)
            have he := smF_succ V k
            obtain ⟨q2, q3⟩ := hsv.out k hk
            obtain ⟨q4, q5⟩ := hsv.out (k + 1) (by omega)
            rw [he] at q4 q5
            have heh := Lib.hid he
            have i1 : (k : Int) < (l.length : Int) := by omega
            clear hx hgk he
            by_cases hx0 : x = 0
            · have hv0 := hzz hx0
              subst hx0
              rw [hv0] at hc1 hc2 q4 q5
              have hv0h := Lib.hid hv0
              clear hzz hv0
              go_upto_region 21 with (fail)
              go_quiet (fail)
              go_wp2_with fail
              go_roundw
              case rel => exact ⟨k + 1, by omega, by go_num, by rw [heh.out, hv0h.out, Int.add_zero], hide ⟨SlZ.drewN hall.out.1 _, SlZ.drewN hall.out.2.1 _, SlZ.drewN hall.out.2.2.1 _, below_drewN hall.out.2.2.2 _⟩⟩
              case measure => simp [intOf]; omega
            · have hx1 : (x == 0) = false := by simp; exact hx0
              clear hzz
              go_upto_region 21 with (fail)
              go_quiet (fail)
              go_wp2_with fail
              go_roundw
              case rel => exact ⟨k + 1, by omega, by go_num, by rw [heh.out], hide ⟨SlZ.drewN hall.out.1 _, SlZ.drewN hall.out.2.1 _, SlZ.drewN hall.out.2.2.1 _, below_drewN hall.out.2.2.2 _⟩⟩
              case measure => simp [intOf]; omega
          · obtain rfl : k = l.length := by omega
            rw [hsum.out]
            go_wp2_with fail
            go_ret
            exact ⟨rfl, hall.out.2.2.2⟩
  · have hn1 : l.length ≤ 1000 := by omega
    have hnoh : Hid (¬ shOk a0 (gZ l) l.length) := hok
    have k1 := Lib.hid (fun (X : World) (h : SlZ .i64 X a1 l) => s_share_no a0 a1 cap1 l X h hn1 hok)
    clear hok hbig
    by_cases c1 : 0 ≤ a0
    · have d1 : decide (a0 ≥ 0) = true := decide_eq_true c1
      by_cases c2 : a0 ≤ 1048576
      · have d2 : decide (a0 ≤ 1048576) = true := decide_eq_true c2
        by_cases c3 : l.length ≤ 256
        · have d3 : decide ((l.length : Int) ≤ 256) = true := decide_eq_true (by omega)
          have z0 : okL a0 l 0 = true := by rw [okL_zero]; exact decide_eq_true ⟨c1, c2, c3⟩
          go_enter Try.func3, Try.ntmps3
          go_wp2_with fail
          refine (pc_awake w).mono ?_
          rintro e w1 ⟨rfl, hb1⟩
          go_wp2_with fail
          refine (k1.out w1 (hsh.out.below hb1)).mono ?_
          rintro e w2 ⟨rfl, rfl⟩
          go_wp2_with fail
          go_loop [7, 8, 9] (fun o v i => ∃ (k : Nat) (T : Int), k ≤ l.length ∧ i = .int .i64 k ∧ o = .bool (okL a0 l k) ∧ v = .int .i64 T ∧ -65536 * (k : Int) ≤ T ∧ T ≤ 65536 * (k : Int) ∧ Hid (okL a0 l k = true → T = smF (gZ l) k)) (fun _ _ i => l.length - (intOf i).toNat)
          case atStart => exact ⟨0, 0, by omega, rfl, by rw [z0], rfl, by omega, by omega, hide (fun _ => by rw [smF_zero])⟩
          case round =>
            obtain ⟨k, T, hk, rfl, rfl, rfl, t0, t1, ht⟩ := hrel
            clear z0
            by_cases hlt : k < l.length
            · obtain ⟨x, hx⟩ : ∃ x, l[k]? = some x := ⟨_, List.getElem?_eq_getElem hlt⟩
              obtain ⟨b, off, rfl, hc⟩ := (hsh.out.below hb1) k x hx
              have hgk := gZ_of hx
              obtain ⟨m0, m1, m2⟩ := tm_bd x
              have i1 : (k : Int) < (l.length : Int) := by omega
              have hos := okL_succ a0 l k
              have he := smF_succ (gZ l) k
              rw [hgk] at hos he
              have hm2 := Lib.hid m2
              have heh := Lib.hid he
              have hosh := Lib.hid hos
              clear hx hgk m2 he hos
              generalize hxt : x.tmod 65537 = y at *
              cases hb : okL a0 l k
              · go_wp2_with fail
                go_round
                case rel => exact ⟨k + 1, _, by omega, by go_num, by rw [hosh.out, hb]; rfl, rfl, by omega, by omega, hide (fun h => by rw [hosh.out, hb] at h; simp at h)⟩
                case measure => simp [intOf]; omega
              · by_cases x0 : 0 ≤ x
                · have e1 : decide (x ≥ 0) = true := decide_eq_true x0
                  by_cases x1 : x ≤ 65536
                  · have e2 : decide (x ≤ 65536) = true := decide_eq_true x1
                    go_wp2_with fail
                    go_round
                    case rel => exact ⟨k + 1, _, by omega, by go_num, by rw [hosh.out, hb, decide_eq_true x0, decide_eq_true x1]; rfl, rfl, by omega, by omega, hide (fun _ => by rw [heh.out, ht.out hb, hm2.out x0 x1])⟩
                    case measure => simp [intOf]; omega
                  · have e2 : decide (x ≤ 65536) = false := decide_eq_false x1
                    go_wp2_with fail
                    go_round
                    case rel => exact ⟨k + 1, _, by omega, by go_num, by rw [hosh.out, hb, decide_eq_true x0, decide_eq_false x1]; rfl, rfl, by omega, by omega, hide (fun h => by rw [hosh.out, hb, decide_eq_false x1] at h; simp at h)⟩
                    case measure => simp [intOf]; omega
                · have e1 : decide (x ≥ 0) = false := decide_eq_false x0
                  go_wp2_with fail
                  go_round
                  case rel => exact ⟨k + 1, _, by omega, by go_num, by rw [hosh.out, hb, decide_eq_false x0]; rfl, rfl, by omega, by omega, hide (fun h => by rw [hosh.out, hb, decide_eq_false x0] at h; simp at h)⟩
                  case measure => simp [intOf]; omega
            · obtain rfl : k = l.length := by omega
              cases hb : okL a0 l l.length
              · go_wp2_with fail
                go_ret
                exact ⟨rfl, hb1⟩
              · have hT : (T == 0) = true := by
                  obtain ⟨⟨o1, o2, o3⟩, o4⟩ := (okL_iff a0 l l.length).1 hb
                  have h0 : smF (gZ l) l.length = 0 := by
                    by_cases h : smF (gZ l) l.length = 0
                    · exact h
                    · exact absurd ⟨o1, o2, o3, o4, h⟩ hnoh.out
                  rw [ht.out hb, h0]
                  rfl
                go_wp2_with fail
                go_ret
                exact ⟨rfl, hb1⟩
        · have d3 : decide ((l.length : Int) ≤ 256) = false := decide_eq_false (by omega)
          have z0 : okL a0 l 0 = false := by rw [okL_zero]; exact decide_eq_false (fun h => c3 h.2.2)
          go_enter Try.func3, Try.ntmps3
          go_wp2_with fail
          refine (pc_awake w).mono ?_
          rintro e w1 ⟨rfl, hb1⟩
          go_wp2_with fail
          refine (k1.out w1 (hsh.out.below hb1)).mono ?_
          rintro e w2 ⟨rfl, rfl⟩
          go_wp2_with fail
          go_loop [7, 8, 9] (fun o v i => ∃ (k : Nat) (T : Int), k ≤ l.length ∧ i = .int .i64 k ∧ o = .bool (okL a0 l k) ∧ v = .int .i64 T ∧ -65536 * (k : Int) ≤ T ∧ T ≤ 65536 * (k : Int) ∧ Hid (okL a0 l k = true → T = smF (gZ l) k)) (fun _ _ i => l.length - (intOf i).toNat)
          case atStart => exact ⟨0, 0, by omega, rfl, by rw [z0], rfl, by omega, by omega, hide (fun _ => by rw [smF_zero])⟩
          case round =>
            obtain ⟨k, T, hk, rfl, rfl, rfl, t0, t1, ht⟩ := hrel
            clear z0
            by_cases hlt : k < l.length
            · obtain ⟨x, hx⟩ : ∃ x, l[k]? = some x := ⟨_, List.getElem?_eq_getElem hlt⟩
              obtain ⟨b, off, rfl, hc⟩ := (hsh.out.below hb1) k x hx
              have hgk := gZ_of hx
              obtain ⟨m0, m1, m2⟩ := tm_bd x
              have i1 : (k : Int) < (l.length : Int) := by omega
              have hos := okL_succ a0 l k
              have he := smF_succ (gZ l) k
              rw [hgk] at hos he
              have hm2 := Lib.hid m2
              have heh := Lib.hid he
              have hosh := Lib.hid hos
              clear hx hgk m2 he hos
              generalize hxt : x.tmod 65537 = y at *
              cases hb : okL a0 l k
              · go_wp2_with fail
                go_round
                case rel => exact ⟨k + 1, _, by omega, by go_num, by rw [hosh.out, hb]; rfl, rfl, by omega, by omega, hide (fun h => by rw [hosh.out, hb] at h; simp at h)⟩
                case measure => simp [intOf]; omega
              · by_cases x0 : 0 ≤ x
                · have e1 : decide (x ≥ 0) = true := decide_eq_true x0
                  by_cases x1 : x ≤ 65536
                  · have e2 : decide (x ≤ 65536) = true := decide_eq_true x1
                    go_wp2_with fail
                    go_round
                    case rel => exact ⟨k + 1, _, by omega, by go_num, by rw [hosh.out, hb, decide_eq_true x0, decide_eq_true x1]; rfl, rfl, by omega, by omega, hide (fun _ => by rw [heh.out, ht.out hb, hm2.out x0 x1])⟩
                    case measure => simp [intOf]; omega
                  · have e2 : decide (x ≤ 65536) = false := decide_eq_false x1
                    go_wp2_with fail
                    go_round
                    case rel => exact ⟨k + 1, _, by omega, by go_num, by rw [hosh.out, hb, decide_eq_true x0, decide_eq_false x1]; rfl, rfl, by omega, by omega, hide (fun h => by rw [hosh.out, hb, decide_eq_false x1] at h; simp at h)⟩
                    case measure => simp [intOf]; omega
                · have e1 : decide (x ≥ 0) = false := decide_eq_false x0
                  go_wp2_with fail
                  go_round
                  case rel => exact ⟨k + 1, _, by omega, by go_num, by rw [hosh.out, hb, decide_eq_false x0]; rfl, rfl, by omega, by omega, hide (fun h => by rw [hosh.out, hb, decide_eq_false x0] at h; simp at h)⟩
                  case measure => simp [intOf]; omega
            · obtain rfl : k = l.length := by omega
              cases hb : okL a0 l l.length
              · go_wp2_with fail
                go_ret
                exact ⟨rfl, hb1⟩
              · have hT : (T == 0) = true := by
                  obtain ⟨⟨o1, o2, o3⟩, o4⟩ := (okL_iff a0 l l.length).1 hb
                  have h0 : smF (gZ l) l.length = 0 := by
                    by_cases h : smF (gZ l) l.length = 0
                    · exact h
                    · exact absurd ⟨o1, o2, o3, o4, h⟩ hnoh.out
                  rw [ht.out hb, h0]
                  rfl
                go_wp2_with fail
                go_ret
                exact ⟨rfl, hb1⟩
      · have d2 : decide (a0 ≤ 1048576) = false := decide_eq_false c2
        have z0 : okL a0 l 0 = false := by rw [okL_zero]; exact decide_eq_false (fun h => c2 h.2.1)
        go_enter Try.func3, Try.ntmps3
        go_wp2_with fail
        refine (pc_awake w).mono ?_
        rintro e w1 ⟨rfl, hb1⟩
        go_wp2_with fail
        refine (k1.out w1 (hsh.out.below hb1)).mono ?_
        rintro e w2 ⟨rfl, rfl⟩
        go_wp2_with fail
        go_loop [7, 8, 9] (fun o v i => ∃ (k : Nat) (T : Int), k ≤ l.length ∧ i = .int .i64 k ∧ o = .bool (okL a0 l k) ∧ v = .int .i64 T ∧ -65536 * (k : Int) ≤ T ∧ T ≤ 65536 * (k : Int) ∧ Hid (okL a0 l k = true → T = smF (gZ l) k)) (fun _ _ i => l.length - (intOf i).toNat)
        case atStart => exact ⟨0, 0, by omega, rfl, by rw [z0], rfl, by omega, by omega, hide (fun _ => by rw [smF_zero])⟩
        case round =>
          obtain ⟨k, T, hk, rfl, rfl, rfl, t0, t1, ht⟩ := hrel
          clear z0
          by_cases hlt : k < l.length
          · obtain ⟨x, hx⟩ : ∃ x, l[k]? = some x := ⟨_, List.getElem?_eq_getElem hlt⟩
            obtain ⟨b, off, rfl, hc⟩ := (hsh.out.below hb1) k x hx
            have hgk := gZ_of hx
            obtain ⟨m0, m1, m2⟩ := tm_bd x
            have i1 : (k : Int) < (l.length : Int) := by omega
            have hos := okL_succ a0 l k
            have he := smF_succ (gZ l) k
            rw [hgk] at hos he
            have hm2 := Lib.hid m2
            have heh := Lib.hid he
            have hosh := Lib.hid hos
            clear hx hgk m2 he hos
            generalize hxt : x.tmod 65537 = y at *
            cases hb : okL a0 l k
            · go_wp2_with fail
              go_round
              case rel => exact ⟨k + 1, _, by omega, by go_num, by rw [hosh.out, hb]; rfl, rfl, by omega, by omega, hide (fun h => by rw [hosh.out, hb] at h; simp at h)⟩
              case measure => simp [intOf]; omega
            · by_cases x0 : 0 ≤ x
              · have e1 : decide (x ≥ 0) = true := decide_eq_true x0
                by_cases x1 : x ≤ 65536
                · have e2 : decide (x ≤ 65536) = true := decide_eq_true x1
                  go_wp2_with fail
                  go_round
                  case rel => exact ⟨k + 1, _, by omega, by go_num, by rw [hosh.out, hb, decide_eq_true x0, decide_eq_true x1]; rfl, rfl, by omega, by omega, hide (fun _ => by rw [heh.out, ht.out hb, hm2.out x0 x1])⟩
                  case measure => simp [intOf]; omega
                · have e2 : decide (x ≤ 65536) = false := decide_eq_false x1
                  go_wp2_with fail
                  go_round
                  case rel => exact ⟨k + 1, _, by omega, by go_num, by rw [hosh.out, hb, decide_eq_true x0, decide_eq_false x1]; rfl, rfl, by omega, by omega, hide (fun h => by rw [hosh.out, hb, decide_eq_false x1] at h; simp at h)⟩
                  case measure => simp [intOf]; omega
              · have e1 : decide (x ≥ 0) = false := decide_eq_false x0
                go_wp2_with fail
                go_round
                case rel => exact ⟨k + 1, _, by omega, by go_num, by rw [hosh.out, hb, decide_eq_false x0]; rfl, rfl, by omega, by omega, hide (fun h => by rw [hosh.out, hb, decide_eq_false x0] at h; simp at h)⟩
                case measure => simp [intOf]; omega
          · obtain rfl : k = l.length := by omega
            cases hb : okL a0 l l.length
            · go_wp2_with fail
              go_ret
              exact ⟨rfl, hb1⟩
            · have hT : (T == 0) = true := by
                obtain ⟨⟨o1, o2, o3⟩, o4⟩ := (okL_iff a0 l l.length).1 hb
                have h0 : smF (gZ l) l.length = 0 := by
                  by_cases h : smF (gZ l) l.length = 0
                  · exact h
                  · exact absurd ⟨o1, o2, o3, o4, h⟩ hnoh.out
                rw [ht.out hb, h0]
                rfl
              go_wp2_with fail
              go_ret
              exact ⟨rfl, hb1⟩
    · have d1 : decide (a0 ≥ 0) = false := decide_eq_false c1
      have z0 : okL a0 l 0 = false := by rw [okL_zero]; exact decide_eq_false (fun h => c1 h.1)
      go_enter Try.func3, Try.ntmps3
      go_wp2_with fail
      refine (pc_awake w).mono ?_
      rintro e w1 ⟨rfl, hb1⟩
      go_wp2_with fail
      refine (k1.out w1 (hsh.out.below hb1)).mono ?_
      rintro e w2 ⟨rfl, rfl⟩
      go_wp2_with fail
      go_loop [7, 8, 9] (fun o v i => ∃ (k : Nat) (T : Int), k ≤ l.length ∧ i = .int .i64 k ∧ o = .bool (okL a0 l k) ∧ v = .int .i64 T ∧ -65536 * (k : Int) ≤ T ∧ T ≤ 65536 * (k : Int) ∧ Hid (okL a0 l k = true → T = smF (gZ l) k)) (fun _ _ i => l.length - (intOf i).toNat)
      case atStart => exact ⟨0, 0, by omega, rfl, by rw [z0], rfl, by omega, by omega, hide (fun _ => by rw [smF_zero])⟩
      case round =>
        obtain ⟨k, T, hk, rfl, rfl, rfl, t0, t1, ht⟩ := hrel
        clear z0
        by_cases hlt : k < l.length
        · obtain ⟨x, hx⟩ : ∃ x, l[k]? = some x := ⟨_, List.getElem?_eq_getElem hlt⟩
          obtain ⟨b, off, rfl, hc⟩ := (hsh.out.below hb1) k x hx
          have hgk := gZ_of hx
          obtain ⟨m0, m1, m2⟩ := tm_bd x
          have i1 : (k : Int) < (l.length : Int) := by omega
          have hos := okL_succ a0 l k
          have he := smF_succ (gZ l) k
          rw [hgk] at hos he
          have hm2 := Lib.hid m2
          have heh := Lib.hid he
          have hosh := Lib.hid hos
          clear hx hgk m2 he hos
          generalize hxt : x.tmod 65537 = y at *
          cases hb : okL a0 l k
          · go_wp2_with fail
            go_round
            case rel => exact ⟨k + 1, _, by omega, by go_num, by rw [hosh.out, hb]; rfl, rfl, by omega, by omega, hide (fun h => by rw [hosh.out, hb] at h; simp at h)⟩
            case measure => simp [intOf]; omega
          · by_cases x0 : 0 ≤ x
            · have e1 : decide (x ≥ 0) = true := decide_eq_true x0
              by_cases x1 : x ≤ 65536
              · have e2 : decide (x ≤ 65536) = true := decide_eq_true x1
                go_wp2_with fail
                go_round
                case rel => exact ⟨k + 1, _, by omega, by go_num, by rw [hosh.out, hb, decide_eq_true x0, decide_eq_true x1]; rfl, rfl, by omega, by omega, hide (fun _ => by rw [heh.out, ht.out hb, hm2.out x0 x1])⟩
                case measure => simp [intOf]; omega
              · have e2 : decide (x ≤ 65536) = false := decide_eq_false x1
                go_wp2_with fail
                go_round
                case rel => exact ⟨k + 1, _, by omega, by go_num, by rw [hosh.out, hb, decide_eq_true x0, decide_eq_false x1]; rfl, rfl, by omega, by omega, hide (fun h => by rw [hosh.out, hb, decide_eq_false x1] at h; simp at h)⟩
                case measure => simp [intOf]; omega
            · have e1 : decide (x ≥ 0) = false := decide_eq_false x0
              go_wp2_with fail
              go_round
              case rel => exact ⟨k + 1, _, by omega, by go_num, by rw [hosh.out, hb, decide_eq_false x0]; rfl, rfl, by omega, by omega, hide (fun h => by rw [hosh.out, hb, decide_eq_false x0] at h; simp at h)⟩
              case measure => simp [intOf]; omega
        · obtain rfl : k = l.length := by omega
          cases hb : okL a0 l l.length
          · go_wp2_with fail
            go_ret
            exact ⟨rfl, hb1⟩
          · have hT : (T == 0) = true := by
              obtain ⟨⟨o1, o2, o3⟩, o4⟩ := (okL_iff a0 l l.length).1 hb
              have h0 : smF (gZ l) l.length = 0 := by
                by_cases h : smF (gZ l) l.length = 0
                · exact h
                · exact absurd ⟨o1, o2, o3, o4, h⟩ hnoh.out
              rw [ht.out hb, h0]
              rfl
            go_wp2_with fail
            go_ret
            exact ⟨rfl, hb1⟩
end Go.Proofs.Ytchpiiccdoejdaa

/- The contract of the document's Decode of layer 33. Condition: the slice reads as the bytes named. -/
import Derived.Test.YtdpmhfpoendooaaDeltaDec2
import Derived.Test.YtdpmhfpoendooaaDeltaEnc
namespace Go.Proofs.Ytdpmhfpoendooaa
open Go.RowKit
attribute [local irreducible] OwnB byF apF bitF putF ctF bsF gmF gmN nbF chF chN enN enB dlF lastF pxF obF nuF catF ckN ckV qF lsF ouF OwnZ OkF rsB OkC
set_option maxHeartbeats 2000000 in
theorem dr_dec_bad (s : Option Addr) (K c : Nat) (D : Nat → Nat) (w : World) (hs : Pv w s K c D) (hD : ∀ j, D j < 256) (hK : K ≤ 1000000) (m : Nat) (hz : ∀ j, j < m → obF D j = 0) (hm : m ≤ 8 * K) (he : m = 8 * K ∨ (m < 8 * K ∧ obF D m = 1)) (hno : 63 < m ∨ 8 * K < 2 * m + 1) :
    Calls Try.prog 31 #[.slice s K c] w (NilPost w 73) := by
  have ka := Lib.hid (dr_all s K c D w hs.rd hD hK)
  have kt := Lib.hid (fun sb cb W (h : Pv W sb (8 * K) cb (obF D)) => dr_take_no sb (8 * K) cb m (obF D) W h hz hm he hno (by omega))
  clear hs hD hz hm he hno
  generalize 8 * K = T at *
  go_enter Try.func31, Try.ntmps31
  go_wp2_with fail
  refine ka.out.mono ?_
  rintro e w1 ⟨v, rfl, ho, hb1⟩
  obtain ⟨sb, cb, rfl, hpv⟩ := ho.pv
  have kt1 := Lib.hid (kt.out sb cb w1 hpv)
  have hb1h := Lib.hid hb1
  clear ho hpv hb1
  go_wp2_with fail
  refine kt1.out.mono ?_
  rintro e w2 ⟨rfl, rfl⟩
  go_wp2_with fail
  go_ret2
  exact ⟨rfl, hb1h.out⟩
set_option maxHeartbeats 2000000 in
theorem dr_dec_long (s : Option Addr) (K c : Nat) (D : Nat → Nat) (w : World) (hs : Pv w s K c D) (hD : ∀ j, D j < 256) (hK : K ≤ 1000000) (m : Nat) (hz : ∀ j, j < m → obF D j = 0) (h1 : obF D m = 1) (hm : m ≤ 63) (hT : 2 * m + 1 ≤ 8 * K) (hM : 4097 < nuF (obF D) m (m + 1)) :
    Calls Try.prog 31 #[.slice s K c] w (NilPost w 2) := by
  have ka := Lib.hid (dr_all s K c D w hs.rd hD hK)
  have kt := Lib.hid (fun sb cb W (h : Pv W sb (8 * K) cb (obF D)) => dr_take_yes sb (8 * K) cb m (obF D) W h (fun j => ob_bit D j) hz h1 hm hT (by omega))
  have hlt : nuF (obF D) m (m + 1) < 18446744073709551616 := Nat.lt_of_lt_of_le (nu_lt (obF D) (fun j => ob_bit D j) m (m + 1)) (Nat.le_trans (Nat.pow_le_pow_right (by decide) (show m + 1 ≤ 64 by omega)) (by decide))
  have x1 : 4097 < ((nuF (obF D) m (m + 1) : Nat) : Int) := by omega
  have x2 : ((nuF (obF D) m (m + 1) : Nat) : Int) < 18446744073709551616 := by omega
  clear hs hD hz h1 hlt hM
  generalize ((nuF (obF D) m (m + 1) : Nat) : Int) = X at *
  have d1 : decide (X > 4097) = true := decide_eq_true (by omega)
  have d2 : decide (4097 < X) = true := decide_eq_true (by omega)
  have d3 : ((2 * (m : Int) + 1 == 0)) = false := by simp; omega
  clear x1 x2
  generalize 8 * K = T at *
  go_enter Try.func31, Try.ntmps31
  go_wp2_with fail
  refine ka.out.mono ?_
  rintro e w1 ⟨v, rfl, ho, hb1⟩
  obtain ⟨sb, cb, rfl, hpv⟩ := ho.pv
  have kt1 := Lib.hid (kt.out sb cb w1 hpv)
  have hb1h := Lib.hid hb1
  clear ho hpv hb1
  go_wp2_with fail
  refine kt1.out.mono ?_
  rintro e w2 ⟨rfl, rfl⟩
  go_wp2_with fail
  go_ret2
  exact ⟨rfl, hb1h.out⟩
theorem ok_le (D : Nat → Nat) (K q0 n k : Nat) (h : Good D K q0 n) (hk : k < n) : qF (obF D) q0 k + ckN (obF D) (qF (obF D) q0 k) ≤ 8 * K := okc_le _ _ _ (ok_at _ _ _ _ _ h.1 hk)
theorem ck_two (β : Nat → Nat) (q : Nat) (h : β q = 1) : 8 ≤ ckN β q := by
  unfold ckN
  rw [if_neg (by omega)]
  split <;> omega
theorem lsF_a (β : Nat → Nat) (q0 k : Nat) (h : ckV β (qF β q0 k) = 0) : lsF β q0 (k + 1) = lsF β q0 k := by rw [lsF_next, h, Nat.xor_zero]
set_option maxRecDepth 100000 in
set_option maxHeartbeats 8000000 in
theorem dr_dec (s : Option Addr) (K c : Nat) (D : Nat → Nat) (w : World) (hs : Pv w s K c D) (hD : ∀ j, D j < 256) (hK : K ≤ 1000000) (m : Nat) (hz : ∀ j, j < m → obF D j = 0) (h1 : obF D m = 1) (hm : m ≤ 63) (hT : 2 * m + 1 ≤ 8 * K) (n : Nat) (hn : nuF (obF D) m (m + 1) = n + 1) (hn2 : n ≤ 4096) :
    Calls Try.prog 31 #[.slice s K c] w (DecPost w D K (2 * m + 1) n) := by
  have hbit : Bit (obF D) := fun j => ob_bit D j
  have hsh := Lib.hid hs
  have ka := Lib.hid (dr_all s K c D w hs.rd hD hK)
  have kt := Lib.hid (fun sb cb W (h : Pv W sb (8 * K) cb (obF D)) => dr_take_yes sb (8 * K) cb m (obF D) W h (fun j => ob_bit D j) hz h1 hm hT (by omega))
  have eN : ((n + 1 : Nat) : Int) = (n : Int) + 1 := by omega
  rw [hn, eN] at kt
  have hgr := gm_read (obF D) hbit m hz h1 hm
  rw [hn] at hgr
  have hform : Hid (qF (obF D) (2 * m + 1) n ≤ 8 * K → (((enN (ouF (obF D) (2 * m + 1)) n n + 7) / 8 = K ∧ ∀ i, i < K → byF (enB (ouF (obF D) (2 * m + 1)) n n) i = D i) ↔ Good D K (2 * m + 1) n)) := hide (fun h => form_iff D hD K n (2 * m + 1) hgr.2.1.symm hgr.2.2 h)
  have ke := Lib.hid (fun so co W (h : InAt W so n (ouF (obF D) (2 * m + 1))) => dr_encode so n co _ W h (fun i => by unfold ouF; exact ls_lt (obF D) hbit _ _) hn2)
  have kz := Lib.hid (fun b0 o0 cb a N W (hp : Pv W (some ⟨b0, o0, none⟩) (8 * K) cb (obF D)) (hh : a + N ≤ 8 * K) (hN : N ≤ 64) => (by
    have := dr_number (some ⟨b0, o0 + a, none⟩) N (cb - a) (fun j => obF D (a + j)) W (hp.rd.part b0 o0 rfl a N hh) (bit_shift hbit a) hN
    rw [nu_shift, Nat.add_zero] at this
    exact this : Calls Try.prog 26 #[.slice (some ⟨b0, o0 + a, none⟩) N (cb - a)] W (fun e w' => e = .returned (.int .u64 (nuF (obF D) a N : Nat)) ∧ W = w')))
  have hl1 := Lib.hid (fun k => ls_lt (obF D) hbit (2 * m + 1) k)
  have hl2 := Lib.hid (fun q => ck_lt (obF D) hbit q)
  have hln := Lib.hid (fun k => lsF_next (obF D) (2 * m + 1) k)
  have hla := Lib.hid (fun k => lsF_a (obF D) (2 * m + 1) k)
  have hqn := Lib.hid (fun k => qF_next (obF D) (2 * m + 1) k)
  have hou := Lib.hid (fun k => ouF_def (obF D) (2 * m + 1) k)
  have hq0 := Lib.hid (qF_zero (obF D) (2 * m + 1))
  have hl0 := Lib.hid (lsF_zero (obF D) (2 * m + 1))
  have hle := Lib.hid (fun k h hk => ok_le D K (2 * m + 1) n k h hk)
  have hbh := Lib.hid hbit
  have hTh := Lib.hid hT
  have d0 : (2 * (m : Int) + 1 == 0) = false := by simp; omega
  have d1 : decide ((n : Int) + 1 > 4097) = false := decide_eq_false (by omega)
  have d2 : decide (4097 < (n : Int) + 1) = false := decide_eq_false (by omega)
  have eq0 : ((2 * m + 1 : Nat) : Int) = 2 * (m : Int) + 1 := by omega
  have hDh := Lib.hid hD
  clear hs hD hz h1 hn eN hbit hT hgr
  have hT2 : 8 * K ≤ 8000000 := by omega
  generalize 8 * K = T at *
  go_enter Try.func31, Try.ntmps31
  go_wp2_with fail
  refine ka.out.mono ?_
  rintro e w1 ⟨v, rfl, ho, hb1⟩
  obtain ⟨sb, cb, rfl, hpv⟩ := ho.pv
  have kt1 := Lib.hid (kt.out sb cb w1 hpv)
  have hb1h := Lib.hid hb1
  have hpvh := Lib.hid hpv
  have hcb := hpv.c0
  have hcb2 := hpv.c1
  unfold maxLen at hcb2
  clear ho hpv hb1 ka kt
  go_wp2_with fail
  refine kt1.out.mono ?_
  rintro e w2 ⟨rfl, rfl⟩
  clear kt1
  rw [← eq0] at d0 ⊢
  clear eq0
  have hqq : Hid (qF (obF D) (2 * m + 1) 0 = 2 * m + 1) := hq0
  generalize 2 * m + 1 = q0 at *
  go_wp2_with fail
  go_loopw [6, 7, 8, 9] (fun av ov lv iv wr => ∃ k : Nat, k ≤ n ∧ iv = .int .i64 ((k : Int) + 1) ∧ av = .int .i64 (qF (obF D) q0 k : Nat) ∧ lv = .int .u16 (lsF (obF D) q0 k : Nat) ∧ Hid (OwnZ wr w1.heap.size 25 .u16 ov k (fun i => (ouF (obF D) q0 i : Nat))) ∧ Hid (Below w1.heap.size w1 wr) ∧ qF (obF D) q0 k ≤ T) (fun _ _ _ iv _ => n + 1 - (intOf iv).toNat)
  case atStart => exact ⟨0, Nat.zero_le _, rfl, by rw [hq0.out], by rw [hl0.out]; rfl, hide (OwnZ.nil _ _ _ _ _), hide (Below.refl _ _), by rw [hq0.out]; exact hTh.out⟩
  case round =>
    obtain ⟨k, hk, rfl, rfl, rfl, hO, hB, hqk⟩ := hrel
    rename_i hKx
    have hKh := Lib.hid hKx
    clear hKx
    by_cases hkn : k < n
    · have i1 : decide ((k : Int) + 1 < (n : Int) + 1) = true := decide_eq_true (by omega)
      have hc1 := Lib.hid (fun h0 => ck_a (obF D) (qF (obF D) q0 k) h0)
      obtain ⟨q, hqe⟩ : ∃ q, q = qF (obF D) q0 k := ⟨_, rfl⟩
      have hqk2 := Lib.hid hqe
      clear hqe
      rw [← hqk2.out] at hqk hc1 ⊢
      by_cases hqT : q < T
      · have d3 : decide ((q : Int) < (T : Int)) = true := decide_eq_true (by omega)
        obtain ⟨bb, oo, hse, c0⟩ := (hpvh.out.rd.below hB.out) q hqT
        subst hse
        have hpvr := Lib.hid (hpvh.out.below hB.out)
        rcases (show obF D q = 0 ∨ obF D q = 1 by have := hbh.out q; omega) with b0 | b0
        · obtain ⟨ck1, ck2⟩ := hc1.out b0
          rw [b0] at c0
          have hln2 : Hid (lsF (obF D) q0 k = ouF (obF D) q0 k) := hide (by rw [hou.out, hla.out k (by rw [← hqk2.out]; exact ck2)])
          have hls : Hid (lsF (obF D) q0 (k + 1) = ouF (obF D) q0 k) := hide (hou.out k).symm
          have hqn2 : Hid (q + 1 = qF (obF D) q0 (k + 1)) := hide (by rw [hqn.out, ← hqk2.out, ck1])
          rw [hln2.out]
          clear hc1 ck1 ck2
          go_wp2_with (at_builtin; refine wpList_snocZ Try.underlying22 infoIn (by decide) rfl (.tmp 44) (.tmp 46) rfl wr _ w1.heap.size k (fun i => (ouF (obF D) q0 i : Nat)) rfl rfl rfl hO.out (by omega) hB.out.size ?_; intro v' w6 ho hgr)
          have hO6 := Lib.hid ho
          have hB6 := Lib.hid (below_grown hB.out (Nat.le_refl _) hgr (fun b hb => (hO.out.lt b hb).1))
          clear ho hgr
          go_roundw
          case rel => exact ⟨k + 1, by omega, by go_num, by rw [← hqn2.out]; go_num, by rw [hls.out], hO6, hB6, by rw [← hqn2.out]; omega⟩
          case measure => simp [intOf]; omega
        · rw [b0] at c0
          by_cases hqT1 : q + 1 < T
          · have d4 : decide ((q : Int) + 1 < (T : Int)) = true := decide_eq_true (by omega)
            have q1 : IntKind.i64.wrap ((q : Int) + 1) = (q : Int) + 1 := IntWalk.i64_in _ (by omega)
            obtain ⟨bb2, oo2, hse, c1⟩ := (hpvh.out.rd.below hB.out) (q + 1) hqT1
            cases hse
            rcases (show obF D (q + 1) = 0 ∨ obF D (q + 1) = 1 by have := hbh.out (q + 1); omega) with b1 | b1
            · rw [b1] at c1
              obtain ⟨ck1, ck2⟩ := ck_b (obF D) q b0 b1
              by_cases hq3 : q + 2 + 6 ≤ T
              · have e_a : IntKind.i64.wrap ((q : Int) + 2) = (q : Int) + 2 := IntWalk.i64_in _ (by omega)
                have e_h : IntKind.i64.wrap ((q : Int) + 2 + 6) = (q : Int) + 2 + 6 := IntWalk.i64_in _ (by omega)
                have d5 : decide ((q : Int) + 2 + 6 > (T : Int)) = false := decide_eq_false (by omega)
                have d5' : decide ((T : Int) < (q : Int) + 2 + 6) = false := decide_eq_false (by omega)
                have kz1 := Lib.hid (kz.out bb oo cb (q + 2) 6 wr hpvr.out (by omega) (by omega))
                have hx := u16_xor (lsF (obF D) q0 k) (nuF (obF D) (q + 2) 6) (hl1.out k) (by rw [← ck2]; exact hl2.out _)
                have hw := wrap16 (nuF (obF D) (q + 2) 6) (by rw [← ck2]; exact hl2.out _)
                rw [← ck2, hqk2.out, ← hln.out k, ← hqk2.out, ck2, ← hou.out k] at hx
                have hqn2 : Hid (q + 2 + 6 = qF (obF D) q0 (k + 1)) := hide (by rw [hqn.out, ← hqk2.out, ck1])
                have hol := Lib.hid (hou.out k)
                clear ck1 ck2
                generalize nuF (obF D) (q + 2) 6 = x at *
                go_wp2_with fail
                refine kz1.out.mono ?_
                rintro e w' ⟨rfl, rfl⟩
                go_wp2_with (at_builtin; refine wpList_snocZ Try.underlying22 infoIn (by decide) rfl (.tmp 89) (.tmp 91) rfl wr _ w1.heap.size k (fun i => (ouF (obF D) q0 i : Nat)) rfl rfl rfl hO.out (by omega) hB.out.size ?_; intro v' w6 ho hgr)
                have hO6 := Lib.hid ho
                have hB6 := Lib.hid (below_grown hB.out (Nat.le_refl _) hgr (fun b hb => (hO.out.lt b hb).1))
                clear ho hgr
                go_roundw
                case rel => exact ⟨k + 1, by omega, by go_num, by rw [← hqn2.out]; go_num, by rw [← hol.out], hO6, hB6, by rw [← hqn2.out]; omega⟩
                case measure => simp [intOf]; omega
              · have e_a : IntKind.i64.wrap ((q : Int) + 2) = (q : Int) + 2 := IntWalk.i64_in _ (by omega)
                have e_h : IntKind.i64.wrap ((q : Int) + 2 + 6) = (q : Int) + 2 + 6 := IntWalk.i64_in _ (by omega)
                have d5 : decide ((q : Int) + 2 + 6 > (T : Int)) = true := decide_eq_true (by omega)
                have d5' : decide ((T : Int) < (q : Int) + 2 + 6) = true := decide_eq_true (by omega)
                have hbad : Hid (¬ Good D K q0 n) := hide (fun h => by have h2 := hle.out k h hkn; rw [← hqk2.out, ck1] at h2; omega)
                clear ck1 ck2
                go_wp2_with fail
                go_ret2
                exact ⟨fun h => absurd h hbad.out, fun _ => ⟨rfl, below_step hb1h.out hb1h.out.size hB.out⟩⟩
            · rw [b1] at c1
              obtain ⟨ck1, ck2⟩ := ck_c (obF D) q b0 b1
              by_cases hq3 : q + 2 + 16 ≤ T
              · have e_a : IntKind.i64.wrap ((q : Int) + 2) = (q : Int) + 2 := IntWalk.i64_in _ (by omega)
                have e_h : IntKind.i64.wrap ((q : Int) + 2 + 16) = (q : Int) + 2 + 16 := IntWalk.i64_in _ (by omega)
                have d5 : decide ((q : Int) + 2 + 16 > (T : Int)) = false := decide_eq_false (by omega)
                have d5' : decide ((T : Int) < (q : Int) + 2 + 16) = false := decide_eq_false (by omega)
                have kz1 := Lib.hid (kz.out bb oo cb (q + 2) 16 wr hpvr.out (by omega) (by omega))
                have hx := u16_xor (lsF (obF D) q0 k) (nuF (obF D) (q + 2) 16) (hl1.out k) (by rw [← ck2]; exact hl2.out _)
                have hw := wrap16 (nuF (obF D) (q + 2) 16) (by rw [← ck2]; exact hl2.out _)
                rw [← ck2, hqk2.out, ← hln.out k, ← hqk2.out, ck2, ← hou.out k] at hx
                have hqn2 : Hid (q + 2 + 16 = qF (obF D) q0 (k + 1)) := hide (by rw [hqn.out, ← hqk2.out, ck1])
                have hol := Lib.hid (hou.out k)
                clear ck1 ck2
                generalize nuF (obF D) (q + 2) 16 = x at *
                go_wp2_with fail
                refine kz1.out.mono ?_
                rintro e w' ⟨rfl, rfl⟩
                go_wp2_with (at_builtin; refine wpList_snocZ Try.underlying22 infoIn (by decide) rfl (.tmp 89) (.tmp 91) rfl wr _ w1.heap.size k (fun i => (ouF (obF D) q0 i : Nat)) rfl rfl rfl hO.out (by omega) hB.out.size ?_; intro v' w6 ho hgr)
                have hO6 := Lib.hid ho
                have hB6 := Lib.hid (below_grown hB.out (Nat.le_refl _) hgr (fun b hb => (hO.out.lt b hb).1))
                clear ho hgr
                go_roundw
                case rel => exact ⟨k + 1, by omega, by go_num, by rw [← hqn2.out]; go_num, by rw [← hol.out], hO6, hB6, by rw [← hqn2.out]; omega⟩
                case measure => simp [intOf]; omega
              · have e_a : IntKind.i64.wrap ((q : Int) + 2) = (q : Int) + 2 := IntWalk.i64_in _ (by omega)
                have e_h : IntKind.i64.wrap ((q : Int) + 2 + 16) = (q : Int) + 2 + 16 := IntWalk.i64_in _ (by omega)
                have d5 : decide ((q : Int) + 2 + 16 > (T : Int)) = true := decide_eq_true (by omega)
                have d5' : decide ((T : Int) < (q : Int) + 2 + 16) = true := decide_eq_true (by omega)
                have hbad : Hid (¬ Good D K q0 n) := hide (fun h => by have h2 := hle.out k h hkn; rw [← hqk2.out, ck1] at h2; omega)
                clear ck1 ck2
                go_wp2_with fail
                go_ret2
                exact ⟨fun h => absurd h hbad.out, fun _ => ⟨rfl, below_step hb1h.out hb1h.out.size hB.out⟩⟩
          · have d4 : decide ((q : Int) + 1 < (T : Int)) = false := decide_eq_false (by omega)
            have d4' : decide (q + 1 < T) = false := decide_eq_false (by omega)
            have q1 : IntKind.i64.wrap ((q : Int) + 1) = (q : Int) + 1 := IntWalk.i64_in _ (by omega)
            have hbad : Hid (¬ Good D K q0 n) := hide (fun h => by have h2 := hle.out k h hkn; rw [← hqk2.out] at h2; have := ck_two (obF D) q b0; omega)
            go_wp2_with fail
            go_ret2
            exact ⟨fun h => absurd h hbad.out, fun _ => ⟨rfl, below_step hb1h.out hb1h.out.size hB.out⟩⟩
      · have d3 : decide ((q : Int) < (T : Int)) = false := decide_eq_false (by omega)
        have d3' : decide (q < T) = false := decide_eq_false (by omega)
        have d4 : decide ((q : Int) + 1 < (T : Int)) = false := decide_eq_false (by omega)
        have d4' : decide (q + 1 < T) = false := decide_eq_false (by omega)
        have hbad : Hid (¬ Good D K q0 n) := hide (fun h => by have h2 := hle.out k h hkn; rw [← hqk2.out] at h2; have := ck_pos (obF D) q; omega)
        go_wp2_with fail
        go_ret2
        exact ⟨fun h => absurd h hbad.out, fun _ => ⟨rfl, below_step hb1h.out hb1h.out.size hB.out⟩⟩
    · have hKx := hKh.out
      clear hKh
      obtain rfl : k = n := by omega
      have i1 : decide ((k : Int) + 1 < (k : Int) + 1) = false := by simp
      obtain ⟨so, co, rfl, ha, hc1, hc2, hc3⟩ := hO.out.open
      have hah : Hid (InAt wr so k (ouF (obF D) q0)) := hide ha
      have ke1 := Lib.hid (ke.out so co wr ha)
      have hf := Lib.hid (hform.out hqk)
      have hEl := en_le (ouF (obF D) q0) k k hn2
      obtain ⟨E, hEe⟩ : ∃ E, (enN (ouF (obF D) q0) k k + 7) / 8 = E := ⟨_, rfl⟩
      have hE := Lib.hid hEe
      rw [hEe] at ke1 hf
      clear hEe
      clear ha
      go_wp2_with fail
      refine ke1.out.mono ?_
      rintro e w5 ⟨g, ce, rfl, hg1, hg2, hg3, hrow, hB5⟩
      have hB6 := Lib.hid (below_step hb1h.out hb1h.out.size (below_step hB.out hB.out.size hB5))
      have ha6 := Lib.hid (hah.out.below hB5)
      have hrowh := Lib.hid hrow
      have hdat := Lib.hid ((hsh.out.rd.below hb1h.out).below (Below.mono (below_step hB.out hB.out.size hB5) (Nat.le_refl _)))
      clear hrow hB5 ke1
      by_cases hEK : E = K
      · subst hEK
        clear hf
        have hf := Lib.hid (hform.out hqk)
        have hfE := hE.out
        rw [hfE] at hf
        go_wp2_with fail
        go_loopw [12] (fun iv wx => ∃ j mq : Nat, j ≤ E ∧ iv = .int .i64 (j : Nat) ∧ wx = w5.drewN mq ∧ Hid (∀ i, i < j → byF (enB (ouF (obF D) q0) k k) i = D i)) (fun iv _ => E - (intOf iv).toNat)
        case atStart => exact ⟨0, 0, Nat.zero_le _, rfl, rfl, hide (fun i hi => absurd hi (by omega))⟩
        case round =>
          obtain ⟨j, mq, hj, rfl, rfl, hpre⟩ := hrel
          by_cases hjE : j < E
          · have d7 : decide ((j : Int) < (E : Int)) = true := decide_eq_true (by omega)
            obtain ⟨b2, o2, h2, hc2⟩ := hdat.out j hjE
            subst h2
            have hc1 := FRow.cell hrowh.out j hjE
            have hpre2 := Lib.hid (fun (h : byF (enB (ouF (obF D) q0) k k) j = D j) (i : Nat) (hi : i < j + 1) => (by
              by_cases e : i = j
              · subst e; exact h
              · exact hpre.out i (by omega) : byF (enB (ouF (obF D) q0) k k) i = D i))
            have hbad : Hid (byF (enB (ouF (obF D) q0) k k) j ≠ D j → ¬ Good D E q0 k) := hide (fun h1 h2 => h1 ((hf.out.2 h2).2 j hjE))
            generalize byF (enB (ouF (obF D) q0) k k) j = x at *
            generalize D j = y at *
            by_cases hxy : x = y
            · have d8 : (((x : Nat) : Int) != ((y : Nat) : Int)) = false := by subst hxy; simp
              have hn := Lib.hid (hpre2.out hxy)
              clear hxy hpre2 hbad
              go_wp2_with fail
              go_quiet (fail)
              go_wp2_with fail
              go_roundw
              case rel => exact ⟨j + 1, _, by omega, by go_num, rfl, hn⟩
              case measure => simp [intOf]; omega
            · have d8 : (((x : Nat) : Int) != ((y : Nat) : Int)) = true := by simp [bne]; omega
              have hb2 := Lib.hid (hbad.out hxy)
              clear hxy hpre2 hbad
              go_wp2_with fail
              go_quiet (fail)
              go_wp2_with fail
              go_ret2
              exact ⟨fun h => absurd h hb2.out, fun _ => ⟨rfl, below_drewN (below_drewN hB6.out _) _⟩⟩
          · obtain rfl : j = E := by omega
            have d7 : decide ((j : Int) < (j : Int)) = false := by simp
            go_wp2_with fail
            go_ret2
            exact ⟨fun _ => ⟨so, co, rfl, ha6.out, hc1, hc2, below_drewN hB6.out _⟩, fun h => absurd (hf.out.1 ⟨by first | exact rfl | trivial, hpre.out⟩) h⟩
      · have d6 : (((E : Nat) : Int) != ((K : Nat) : Int)) = true := by simp [bne]; omega
        have hbad : Hid (¬ Good D K q0 k) := hide (fun h => hEK (hf.out.2 h).1)
        go_wp2_with fail
        go_ret2
        exact ⟨fun h => absurd h hbad.out, fun _ => ⟨rfl, hB6.out⟩⟩
end Go.Proofs.Ytdpmhfpoendooaa

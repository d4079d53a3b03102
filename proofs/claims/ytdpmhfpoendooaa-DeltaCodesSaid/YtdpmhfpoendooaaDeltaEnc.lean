/- The contract of the document's Encode of layer 33. Condition: the slice reads as the inputs named. -/
import Derived.Test.YtdpmhfpoendooaaDeltaMid
namespace Go.Proofs.Ytdpmhfpoendooaa
open Go.RowKit
theorem by_one (w : World) (x : Nat) : By (w.alloc (.cells #[.int .u8 (x : Nat)] 5)) (some ⟨w.heap.size, 0, none⟩) 1 (fun _ => x) := fun i hi => ⟨_, _, rfl, by
  obtain rfl : i = 0 := by omega
  rw [cell_of_block (last_block0 w _ _ rfl)]; rfl⟩
theorem bs0_cong (β : Nat → Nat) (n : Nat) : ctF β n (fun _ => 0) 1 = ctF β n (chF 0) (chN 0) := by
  rw [← ch_zero]
  exact ct_congr _ _ _ _ _ fun j hj => by obtain rfl : j = 0 := by omega
                                          unfold bsF bitF; simp
theorem by_two (w : World) (x : Nat) (hx : x ≤ 1) : By (w.alloc (.cells #[.int .u8 1, .int .u8 (x : Nat)] 5)) (some ⟨w.heap.size, 0, none⟩) 2 (bsF (2 + x) 2) := fun i hi => ⟨_, _, rfl, by
  rcases (show i = 0 ∨ i = 1 by omega) with rfl | rfl
  · rw [cell_of_block (last_block0 w _ _ rfl)]
    rcases (show x = 0 ∨ x = 1 by omega) with rfl | rfl <;> rfl
  · rw [cell_of_block (last_block0 w _ _ rfl)]
    rcases (show x = 0 ∨ x = 1 by omega) with rfl | rfl <;> rfl⟩
theorem cat_cat (n m l : Nat) (β γ δ : Nat → Nat) (j : Nat) (hj : j < n + m + l) : catF (n + m) (catF n β γ) δ j = ctF (ctF β n γ m) (n + m) δ l j := by
  unfold catF ctF
  by_cases h1 : j < n
  · rw [if_pos (by omega), if_pos h1, if_pos (by omega), if_pos h1]
  · by_cases h2 : j < n + m
    · rw [if_pos h2, if_neg h1, if_pos h2, if_neg h1, if_pos h2]
    · rw [if_neg h2, if_neg h2, if_pos hj]
theorem ct_at0 (γ : Nat → Nat) (m j : Nat) (hj : j < m) : ctF (fun _ => 0) 0 γ m j = γ j := by unfold ctF; rw [if_neg (by omega), if_pos (by omega), Nat.sub_zero]
attribute [local irreducible] OwnB byF apF bitF putF ctF bsF gmF gmN nbF chF chN enN enB dlF lastF pxF catF
set_option maxHeartbeats 2000000 in
theorem dr_encode (s : Option Addr) (n cap : Nat) (L : Nat → Nat) (w : World) (hs : InAt w s n L) (hL : ∀ i, L i < 65536) (hn : n ≤ 4096) :
    Calls Try.prog 29 #[.slice s n cap] w (RowPost w ((enN L n n + 7) / 8) (byF (enB L n n))) := by
  have hsh := Lib.hid hs
  have hLh := Lib.hid hL
  have hd := Lib.hid (fun k => dl_lt L hL k)
  have hll := Lib.hid (fun k => last_lt L hL k)
  have hdl := Lib.hid (fun k => dl_last L k)
  have hle := Lib.hid (fun k => en_le L n k hn)
  have hnx := Lib.hid (fun k => last_next L k)
  have kg := Lib.hid (dr_gamma_own (n + 1) w (by omega))
  have eN : ((n + 1 : Nat) : Int) = (n : Int) + 1 := by omega
  rw [eN, ← enN_zero L n] at kg
  clear hs hL eN
  go_enter Try.func29, Try.ntmps29
  go_wp2_with fail
  refine kg.out.mono ?_
  rintro e w1 ⟨bv, rfl, ho1, hB1⟩
  have h0h : Hid (OwnB w1 w.heap.size bv (enN L n 0) (enB L n 0)) := hide (ho1.congr (fun j hj => by rw [enB_zero]; rw [enN_zero] at hj; exact (ct_at0 _ _ _ hj).symm))
  have hB1h := Lib.hid hB1
  clear ho1 hB1
  go_wp2_with fail
  go_loopw [3, 4, 5] (fun bv la v wr => ∃ k : Nat, k ≤ n ∧ v = .int .i64 k ∧ la = .int .u16 (lastF L k : Nat) ∧ Hid (OwnB wr w.heap.size bv (enN L n k) (enB L n k)) ∧ Hid (Below w.heap.size w wr)) (fun _ _ v _ => n - (intOf v).toNat)
  case atStart => exact ⟨0, Nat.zero_le _, rfl, by unfold lastF; rfl, h0h, hB1h⟩
  case round =>
    obtain ⟨k, hk, rfl, rfl, hO, hB⟩ := hrel
    clear h0h hB1h
    by_cases hlt : k < n
    · obtain ⟨b, off, rfl, q0⟩ := hsh.out k hlt
      have c0 := (hB.out.cell (p := ⟨b, off + k, none⟩) (cell_block_lt q0)).trans q0
      have i1 : (k : Int) < (n : Int) := by omega
      have hx := u16_xor (L k) (lastF L k) (hLh.out k) (hll.out k)
      rw [hdl.out k] at hx
      have hdk := hd.out k
      have hlk := hLh.out k
      have hle2 := hle.out k
      have e1 := Lib.hid (enN_next L n k)
      have e2 := Lib.hid (enB_next L n k)
      clear q0
      rcases (show dlF L k = 0 ∨ (dlF L k ≠ 0 ∧ dlF L k < 64) ∨ ¬ dlF L k < 64 by omega) with h0 | ⟨h0, h64⟩ | h64
      · have hfn : Hid (enN L n k + 1 = enN L n (k + 1)) := hide (by rw [e1.out, h0, chN_0])
        have hfb : Hid (∀ j, j < enN L n k + 1 → catF (enN L n k) (enB L n k) (fun _ => 0) j = enB L n (k + 1) j) := hide (fun j hj => by rw [cat_ct _ 1 _ _ _ hj, e2.out, h0, bs0_cong])
        have t1 : ((((dlF L k : Nat)) : Int) == 0) = true := beq_nat0 _ h0
        have hA := Lib.hid (by_one wr 0)
        have hz0 : ((0 : Nat) : Int) = 0 := rfl
        rw [hz0] at hA
        have hOa := Lib.hid (hO.out.below (below_new1 wr (.cells #[.int .u8 0] 5)))
        have hBa := Lib.hid (below_step hB.out hB.out.size (below_new1 wr (.cells #[.int .u8 0] 5)))
        have hsa := hBa.out.size
        clear e1 e2 h0 hz0
        generalize dlF L k = x at *
        go_wp2_with (at_builtin; refine wpList_catB rfl (.tmp 38) (.tmp 39) rfl _ w.heap.size (enN L n k) (enB L n k) rfl hOa.out (some ⟨wr.heap.size, 0, none⟩) 1 1 (fun _ => 0) rfl hA.out (fun e => by cases e) (by omega) hsa ?_; intro v' w4 ho hgr hbk; have hO4 := Lib.hid (ho.congr hfb.out); have hB4 := Lib.hid (hOa.out.belowB hBa.out (Nat.le_refl _) hgr); clear ho hgr hbk)
        go_roundw
        case rel => exact ⟨k + 1, by omega, by go_num, by rw [hnx.out k], by rw [← hfn.out]; exact hO4, hB4⟩
        case measure => simp [intOf]; omega
      · have hfn : Hid (enN L n k + 2 + 6 = enN L n (k + 1)) := hide (by rw [e1.out, chN_6 _ h0 h64])
        have hfb : Hid (∀ j, j < enN L n k + 2 + 6 → catF (enN L n k + 2) (catF (enN L n k) (enB L n k) (bsF (2 + 0) 2)) (bsF (dlF L k) 6) j = enB L n (k + 1) j) := hide (fun j hj => by rw [cat_cat _ 2 6 _ _ _ _ hj, e2.out, ← ch_low _ _ _ h0 h64])
        have t1 : ((((dlF L k : Nat)) : Int) == 0) = false := beq_nat1 _ (by omega)
        have t2 : decide (((dlF L k : Nat) : Int) < 64) = true := decide_eq_true (by omega)
        have t2' : decide (dlF L k < 64) = true := decide_eq_true (by omega)
        have hA := Lib.hid (by_two wr 0 (by omega))
        have hz0 : ((0 : Nat) : Int) = 0 := rfl
        rw [hz0] at hA
        have hOa := Lib.hid (hO.out.below (below_new1 wr (.cells #[.int .u8 1, .int .u8 0] 5)))
        have hBa := Lib.hid (below_step hB.out hB.out.size (below_new1 wr (.cells #[.int .u8 1, .int .u8 0] 5)))
        have hsa := hBa.out.size
        have kb := Lib.hid (fun W => dr_bits (dlF L k) 6 W 6 (by decide))
        clear e1 e2 h0 h64 hz0
        generalize dlF L k = x at *
        go_wp2_with (at_builtin; refine wpList_catB rfl (.tmp 44) (.tmp 45) rfl _ w.heap.size (enN L n k) (enB L n k) rfl hOa.out (some ⟨wr.heap.size, 0, none⟩) 2 2 (bsF (2 + 0) 2) rfl hA.out (fun e => by cases e) (by omega) hsa ?_; intro v' w4 ho hgr hbk; have hO4 := Lib.hid ho; have hB4 := Lib.hid (hOa.out.belowB hBa.out (Nat.le_refl _) hgr); clear ho hgr hbk)
        refine (kb.out w4).mono ?_
        rintro e w5 ⟨s5, c5, rfl, hpv, hb5⟩
        have hO5 := Lib.hid (hO4.out.below hb5)
        have hB5 := Lib.hid (below_step hB4.out hB4.out.size hb5)
        have hs5 := hB5.out.size
        have hpvh := Lib.hid hpv
        clear hpv hb5
        go_wp2_with (at_builtin; refine wpList_catB rfl (.tmp 46) (.tmp 49) rfl _ w.heap.size (enN L n k + 2) _ rfl hO5.out s5 c5 6 (bsF x 6) rfl hpvh.out.rd hpvh.out.nil (by omega) hs5 ?_; intro v2 w6 ho hgr hbk; have hO6 := Lib.hid (ho.congr hfb.out); have hB6 := Lib.hid (hO5.out.belowB hB5.out (Nat.le_refl _) hgr); clear ho hgr hbk)
        go_roundw
        case rel => exact ⟨k + 1, by omega, by go_num, by rw [hnx.out k], by rw [← hfn.out]; exact hO6, hB6⟩
        case measure => simp [intOf]; omega
      · have hfn : Hid (enN L n k + 2 + 16 = enN L n (k + 1)) := hide (by rw [e1.out, chN_16 _ h64])
        have hfb : Hid (∀ j, j < enN L n k + 2 + 16 → catF (enN L n k + 2) (catF (enN L n k) (enB L n k) (bsF (2 + 1) 2)) (bsF (dlF L k) 16) j = enB L n (k + 1) j) := hide (fun j hj => by rw [cat_cat _ 2 16 _ _ _ _ hj, e2.out, ← ch_high _ _ _ h64])
        have t1 : ((((dlF L k : Nat)) : Int) == 0) = false := beq_nat1 _ (by omega)
        have t2 : decide (((dlF L k : Nat) : Int) < 64) = false := decide_eq_false (by omega)
        have t2' : decide (dlF L k < 64) = false := decide_eq_false (by omega)
        have hA := Lib.hid (by_two wr 1 (by omega))
        have hz0 : ((1 : Nat) : Int) = 1 := rfl
        rw [hz0] at hA
        have hOa := Lib.hid (hO.out.below (below_new1 wr (.cells #[.int .u8 1, .int .u8 1] 5)))
        have hBa := Lib.hid (below_step hB.out hB.out.size (below_new1 wr (.cells #[.int .u8 1, .int .u8 1] 5)))
        have hsa := hBa.out.size
        have kb := Lib.hid (fun W => dr_bits (dlF L k) 16 W 16 (by decide))
        clear e1 e2 h64 hz0
        generalize dlF L k = x at *
        go_wp2_with (at_builtin; refine wpList_catB rfl (.tmp 28) (.tmp 29) rfl _ w.heap.size (enN L n k) (enB L n k) rfl hOa.out (some ⟨wr.heap.size, 0, none⟩) 2 2 (bsF (2 + 1) 2) rfl hA.out (fun e => by cases e) (by omega) hsa ?_; intro v' w4 ho hgr hbk; have hO4 := Lib.hid ho; have hB4 := Lib.hid (hOa.out.belowB hBa.out (Nat.le_refl _) hgr); clear ho hgr hbk)
        refine (kb.out w4).mono ?_
        rintro e w5 ⟨s5, c5, rfl, hpv, hb5⟩
        have hO5 := Lib.hid (hO4.out.below hb5)
        have hB5 := Lib.hid (below_step hB4.out hB4.out.size hb5)
        have hs5 := hB5.out.size
        have hpvh := Lib.hid hpv
        clear hpv hb5
        go_wp2_with (at_builtin; refine wpList_catB rfl (.tmp 30) (.tmp 33) rfl _ w.heap.size (enN L n k + 2) _ rfl hO5.out s5 c5 16 (bsF x 16) rfl hpvh.out.rd hpvh.out.nil (by omega) hs5 ?_; intro v2 w6 ho hgr hbk; have hO6 := Lib.hid (ho.congr hfb.out); have hB6 := Lib.hid (hO5.out.belowB hB5.out (Nat.le_refl _) hgr); clear ho hgr hbk)
        go_roundw
        case rel => exact ⟨k + 1, by omega, by go_num, by rw [hnx.out k], by rw [← hfn.out]; exact hO6, hB6⟩
        case measure => simp [intOf]; omega
    · obtain rfl : k = n := by omega
      obtain ⟨s3, c3, rfl, hpv⟩ := hO.out.pv
      have kb := Lib.hid (dr_bytes s3 (enN L k k) c3 (enB L k k) wr hpv.rd (fun i _ => en_bit L k k i) (by have := hle.out k; omega))
      rw [px_all _ _ (en_zb L k k)] at kb
      have hgl := hB.out.size
      clear hpv hO
      go_wp2_with fail
      refine kb.out.mono ?_
      rintro e w5 ⟨g2, c5, rfl, q1, q2, q3, q4, q5⟩
      have q4h := Lib.hid q4
      have q5h := Lib.hid (below_step hB.out hB.out.size q5)
      clear q4 q5
      go_wp2_with fail
      go_ret
      exact ⟨g2, c5, rfl, by omega, q2, q3, q4h.out, q5h.out⟩
end Go.Proofs.Ytdpmhfpoendooaa

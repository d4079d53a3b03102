/- The contract of package delta's Decode. Condition: the slice reads as the bytes named. -/
import Derived.Test.YtdpmhfpoendooaaDeltaDec
namespace Go.Proofs.Ytdpmhfpoendooaa
open Go.RowKit
def NilPost (w : World) (code : Int) (e : Ending) (w' : World) : Prop := e = .returned (.tuple #[.slice none 0 0, .int .i64 code]) ∧ Below w.heap.size w w'
def ListPost (w : World) (n : Nat) (f : Nat → Nat) (e : Ending) (w' : World) : Prop := ∃ s cap, e = .returned (.tuple #[.slice s n cap, .int .i64 0]) ∧ InAt w' s n f ∧ n ≤ cap ∧ cap ≤ maxLen ∧ Below w.heap.size w w'
/-- are all n in their one form, and is the rest noughts? -/
def Good (D : Nat → Nat) (K q0 n : Nat) : Prop := OkF (obF D) (8 * K) q0 n ∧ rsB D K (qF (obF D) q0 n) = true
def DecPost (w : World) (D : Nat → Nat) (K q0 n : Nat) (e : Ending) (w' : World) : Prop := (Good D K q0 n → ListPost w n (ouF (obF D) q0) e w') ∧ (¬ Good D K q0 n → NilPost w 73 e w')
theorem gam_no_of (D : Nat → Nat) (K m : Nat) (hz : ∀ j, j < m → obF D j = 0) (hm : m ≤ 8 * K) (he : m = 8 * K ∨ (m < 8 * K ∧ obF D m = 1)) (hno : 63 < m ∨ 8 * K < 2 * m + 1) :
    ∃ n, (∀ j, j < n → obF D (0 + j) = 0) ∧ 0 + n ≤ 8 * K ∧ ((0 + n = 8 * K ∧ n ≤ 63) ∨ n = 64 ∨ (obF D (0 + n) = 1 ∧ n ≤ 63 ∧ 0 + n < 8 * K ∧ 8 * K < 0 + 2 * n + 1)) := by
  by_cases h : 63 < m
  · exact ⟨64, fun j hj => by rw [Nat.zero_add]; exact hz j (by omega), by omega, .inr (.inl rfl)⟩
  · refine ⟨m, fun j hj => by rw [Nat.zero_add]; exact hz j hj, by omega, ?_⟩
    rcases he with h1 | ⟨h1, h2⟩
    · exact .inl ⟨by omega, by omega⟩
    · exact .inr (.inr ⟨by rw [Nat.zero_add]; exact h2, by omega, by omega, by omega⟩)
attribute [local irreducible] OwnB byF apF bitF putF ctF bsF gmF gmN nbF chF chN enN enB dlF lastF pxF obF nuF catF ckN ckV qF lsF ouF OwnZ OkF rsB OkC
set_option maxHeartbeats 2000000 in
theorem d_dec_bad (s : Option Addr) (K c : Nat) (D : Nat → Nat) (w : World) (hs : Pv w s K c D) (hD : ∀ j, D j < 256) (hK : K ≤ 1000000) (m : Nat) (hz : ∀ j, j < m → obF D j = 0) (hm : m ≤ 8 * K) (he : m = 8 * K ∨ (m < 8 * K ∧ obF D m = 1)) (hno : 63 < m ∨ 8 * K < 2 * m + 1) :
    Calls Try.prog 28 #[.slice s K c] w (NilPost w 73) := by
  obtain ⟨n, h1, h2, h3⟩ := gam_no_of D K m hz hm he hno
  have kn := Lib.hid (d_new s K c D w hs hK)
  have kg := Lib.hid (fun p g c' W (h : RdAt W p g c' K 0 false D) => d_gam_no p g c' K 0 n D W h hD hK h1 h2 h3)
  clear hs hD hz hm he hno h1 h2 h3
  go_enter Try.func28, Try.ntmps28
  go_wp2_with fail
  refine kn.out.mono ?_
  rintro e w1 ⟨p, g, c', rfl, r1, hp, hg, hb1⟩
  have kg1 := Lib.hid (kg.out p g c' w1 r1)
  have hb1h := Lib.hid hb1
  clear r1 hb1
  go_wp2_with fail
  refine kg1.out.mono ?_
  rintro e w2 ⟨q', hq', rfl, r2, g2⟩
  have c2 : w2.cell? ⟨p, 2, none⟩ = some (.bool true) := (cell_of_block r2.st).trans rfl
  have hb2h := Lib.hid (below_grown hb1h.out (Nat.le_refl _) g2 (fun b hb => by cases hb; exact hp))
  clear r2 g2
  go_wp2_with fail
  go_ret2
  exact ⟨rfl, hb2h.out⟩
set_option maxHeartbeats 2000000 in
theorem d_dec_long (s : Option Addr) (K c : Nat) (D : Nat → Nat) (w : World) (hs : Pv w s K c D) (hD : ∀ j, D j < 256) (hK : K ≤ 1000000) (m : Nat) (hz : ∀ j, j < m → obF D j = 0) (h1 : obF D m = 1) (hm : m ≤ 63) (hT : 2 * m + 1 ≤ 8 * K) (hM : 4097 < nuF (obF D) m (m + 1)) :
    Calls Try.prog 28 #[.slice s K c] w (NilPost w 2) := by
  have kn := Lib.hid (d_new s K c D w hs hK)
  have kg := Lib.hid (fun p g c' W (h : RdAt W p g c' K 0 false D) => d_gam_yes p g c' K 0 m D W h hD hK (fun j hj => by rw [Nat.zero_add]; exact hz j hj) (by rw [Nat.zero_add]; exact h1) hm (by omega))
  have hlt : nuF (obF D) m (m + 1) < 18446744073709551616 := Nat.lt_of_lt_of_le (nu_lt (obF D) (fun j => ob_bit D j) m (m + 1)) (Nat.le_trans (Nat.pow_le_pow_right (by decide) (show m + 1 ≤ 64 by omega)) (by decide))
  rw [Nat.zero_add, Nat.zero_add] at kg
  have x1 : 4097 < ((nuF (obF D) m (m + 1) : Nat) : Int) := by omega
  have x2 : ((nuF (obF D) m (m + 1) : Nat) : Int) < 18446744073709551616 := by omega
  clear hs hD hz h1 hlt hM
  generalize ((nuF (obF D) m (m + 1) : Nat) : Int) = X at *
  have e1 : IntKind.u64.wrap (X - 1) = X - 1 := by rw [IntKind.wrap_u64]; omega
  have d1 : decide (X - 1 > 4096) = true := decide_eq_true (by omega)
  have d2 : decide (4096 < X - 1) = true := decide_eq_true (by omega)
  clear x1 x2
  go_enter Try.func28, Try.ntmps28
  go_wp2_with fail
  refine kn.out.mono ?_
  rintro e w1 ⟨p, g, c', rfl, r1, hp, hg, hb1⟩
  have kg1 := Lib.hid (kg.out p g c' w1 r1)
  have hb1h := Lib.hid hb1
  clear r1 hb1
  go_wp2_with fail
  refine kg1.out.mono ?_
  rintro e w2 ⟨rfl, r2, g2⟩
  have c2 : w2.cell? ⟨p, 2, none⟩ = some (.bool false) := (cell_of_block r2.st).trans rfl
  have hb2h := Lib.hid (below_grown hb1h.out (Nat.le_refl _) g2 (fun b hb => by cases hb; exact hp))
  clear r2 g2
  go_wp2_with fail
  go_ret2
  exact ⟨rfl, hb2h.out⟩
theorem ok_next (β : Nat → Nat) (T q0 k : Nat) (h : OkF β T q0 k) (h2 : OkC β T (qF β q0 k)) : OkF β T q0 (k + 1) := by
  unfold OkF at *
  unfold OkC at h2
  intro i hi
  by_cases e : i = k
  · subst e; rw [qF_next]; exact h2
  · exact h i (by omega)
theorem ok_at (β : Nat → Nat) (T q0 n k : Nat) (h : OkF β T q0 n) (hk : k < n) : OkC β T (qF β q0 k) := by
  unfold OkF at h
  unfold OkC
  have := h k hk
  rw [qF_next] at this
  exact this
theorem ok_zero (β : Nat → Nat) (T q0 : Nat) : OkF β T q0 0 := by unfold OkF; exact fun i hi => absurd hi (by omega)
theorem okc_le (β : Nat → Nat) (T q : Nat) (h : OkC β T q) : q + ckN β q ≤ T := by unfold OkC at h; exact h.1
theorem ouF_def (β : Nat → Nat) (q0 k : Nat) : ouF β q0 k = lsF β q0 (k + 1) := by unfold ouF; rfl
set_option maxHeartbeats 4000000 in
theorem d_dec (s : Option Addr) (K c : Nat) (D : Nat → Nat) (w : World) (hs : Pv w s K c D) (hD : ∀ j, D j < 256) (hK : K ≤ 1000000) (m : Nat) (hz : ∀ j, j < m → obF D j = 0) (h1 : obF D m = 1) (hm : m ≤ 63) (hT : 2 * m + 1 ≤ 8 * K) (n : Nat) (hn : nuF (obF D) m (m + 1) = n + 1) (hn2 : n ≤ 4096) :
    Calls Try.prog 28 #[.slice s K c] w (DecPost w D K (2 * m + 1) n) := by
  have kn := Lib.hid (d_new s K c D w hs hK)
  have kg := Lib.hid (fun p g c' W (h : RdAt W p g c' K 0 false D) => d_gam_yes p g c' K 0 m D W h hD hK (fun j hj => by rw [Nat.zero_add]; exact hz j hj) (by rw [Nat.zero_add]; exact h1) hm (by omega))
  have eN : ((n + 1 : Nat) : Int) = (n : Int) + 1 := by omega
  rw [Nat.zero_add, Nat.zero_add, hn, eN] at kg
  have kc := Lib.hid (fun p g c' q W (h : RdAt W p g c' K q false D) (hq : q ≤ 8 * K) => d_change p g c' K q D W h hD hK hq)
  have kr := Lib.hid (fun p g c' q W (h : RdAt W p g c' K q false D) (hq : q ≤ 8 * K) => d_rest p g c' K q D W h hD hK hq)
  have hbit : Bit (obF D) := fun j => ob_bit D j
  have hl1 := Lib.hid (fun k => ls_lt (obF D) hbit (2 * m + 1) k)
  have hl2 := Lib.hid (fun q => ck_lt (obF D) hbit q)
  have hln := Lib.hid (fun k => lsF_next (obF D) (2 * m + 1) k)
  have hqn := Lib.hid (fun k => qF_next (obF D) (2 * m + 1) k)
  have hou := Lib.hid (fun k => ouF_def (obF D) (2 * m + 1) k)
  have hq0 := Lib.hid (qF_zero (obF D) (2 * m + 1))
  have hl0 := Lib.hid (lsF_zero (obF D) (2 * m + 1))
  have hok0 := Lib.hid (ok_zero (obF D) (8 * K) (2 * m + 1))
  have hTh := Lib.hid hT
  have e1 : IntKind.u64.wrap ((n : Int) + 1 - 1) = (n : Int) := by rw [IntKind.wrap_u64]; omega
  have e2 : IntKind.u64.wrap (n : Int) = (n : Int) := by rw [IntKind.wrap_u64]; omega
  have d1 : decide ((n : Int) > 4096) = false := decide_eq_false (by omega)
  have d2 : decide (4096 < (n : Int)) = false := decide_eq_false (by omega)
  have d3 : decide (4096 < n) = false := decide_eq_false (by omega)
  clear hs hD hz h1 hn eN hbit hT hm
  generalize 2 * m + 1 = q0 at *
  go_enter Try.func28, Try.ntmps28
  go_wp2_with fail
  refine kn.out.mono ?_
  rintro e w1 ⟨p, g, c', rfl, r1, hp, hg, hb1⟩
  have kg1 := Lib.hid (kg.out p g c' w1 r1)
  have hpl := blk_lt (blk_of r1.st)
  have hgl := r1.row.lt
  have hb1h := Lib.hid hb1
  clear r1 hb1 kn kg
  go_wp2_with fail
  refine kg1.out.mono ?_
  rintro e w2 ⟨rfl, r2, g2⟩
  have c2 : w2.cell? ⟨p, 2, none⟩ = some (.bool false) := (cell_of_block r2.st).trans rfl
  have hb2h := Lib.hid (below_grown hb1h.out (Nat.le_refl _) g2 (fun b hb => by cases hb; exact hp))
  have r2h : Hid (RdAt w2 p g c' K (qF (obF D) q0 0) false D) := hide (by rw [hq0.out]; exact r2)
  have hB1 := Lib.hid g2.size
  have hB0 := hb1h.out.size
  have hBd : ∃ B1, B1 = w1.heap.size := ⟨_, rfl⟩
  obtain ⟨B1, hBd⟩ := hBd
  rw [← hBd] at hpl hgl hB1 hB0
  clear r2 g2 kg1 hBd hb1h
  go_wp2_with fail
  go_loopw [6, 7, 23] (fun ov lv iv wr => ∃ k : Nat, k ≤ n ∧ iv = .int .u64 (k : Nat) ∧ lv = .int .u16 (lsF (obF D) q0 k : Nat) ∧ Hid (OwnZ wr B1 25 .u16 ov k (fun i => (ouF (obF D) q0 i : Nat))) ∧ Hid (RdAt wr p g c' K (qF (obF D) q0 k) false D) ∧ Hid (Below w.heap.size w wr) ∧ Hid (B1 ≤ wr.heap.size) ∧ Hid (OkF (obF D) (8 * K) q0 k) ∧ Hid (qF (obF D) q0 k ≤ 8 * K)) (fun _ _ iv _ => n - (intOf iv).toNat)
  case atStart => exact ⟨0, Nat.zero_le _, rfl, by rw [hl0.out]; rfl, hide (OwnZ.nil _ _ _ _ _), r2h, hb2h, hB1, hok0, hide (by rw [hq0.out]; exact hTh.out)⟩
  case round =>
    obtain ⟨k, hk, rfl, rfl, hO, hR, hB, hS, hOk, hqk⟩ := hrel
    clear r2h hb2h hB1
    by_cases hkn : k < n
    · have i1 : decide ((k : Int) < (n : Int)) = true := decide_eq_true (by omega)
      have kc1 := Lib.hid (kc.out p g c' _ wr hR.out hqk.out)
      have hx := u16_xor (lsF (obF D) q0 k) (ckV (obF D) (qF (obF D) q0 k)) (hl1.out k) (hl2.out _)
      rw [← hln.out k] at hx
      go_wp2_with fail
      refine kc1.out.mono ?_
      rintro e w5 (⟨o1, rfl, r5, g5⟩ | ⟨o1, x, rfl, g5⟩)
      · have hO5 := Lib.hid (hO.out.kept g5 (fun b hb => by cases hb; exact hpl))
        have r5h := Lib.hid r5
        have hB5 := Lib.hid (below_grown hB.out (Nat.le_refl _) g5 (fun b hb => by cases hb; exact hp))
        have hS5 := Nat.le_trans hS.out g5.size
        have hOk5 := Lib.hid (ok_next _ _ _ _ hOk.out o1)
        have hq5 := Lib.hid (okc_le _ _ _ o1)
        rw [← hqn.out k] at r5h hq5
        have hok := (hou.out k).symm
        clear r5 g5 o1 kc1 hO hR hB
        generalize ckV (obF D) (qF (obF D) q0 k) = cv at *
        have hxx : Hid ((lsF (obF D) q0 (k + 1) : Nat) = ouF (obF D) q0 k) := hide hok
        rw [hok] at hx
        clear hok
        generalize lsF (obF D) q0 k = lv at *
        go_wp2_with (at_builtin; refine wpList_snocZ Try.underlying22 infoIn (by decide) rfl (.tmp 35) (.tmp 37) rfl w5 _ B1 k (fun i => (ouF (obF D) q0 i : Nat)) rfl rfl rfl hO5.out (by omega) hS5 ?_; intro v' w6 ho hgr)
        have hO6 := Lib.hid ho
        have hr6 := Lib.hid (r5h.out.grown hgr (fun b hb => by have := (hO5.out.lt b hb).1; omega))
        have hB6 := Lib.hid (below_grown hB5.out (Nat.le_refl _) hgr (fun b hb => by have := (hO5.out.lt b hb).1; omega))
        have hS6 := Lib.hid (Nat.le_trans hS5 hgr.size)
        clear ho hgr
        go_roundw
        case rel => exact ⟨k + 1, by omega, by go_num, by rw [hxx.out], hO6, hr6, hB6, hS6, hOk5, hq5⟩
        case measure => simp [intOf]; omega
      · have hB5 := Lib.hid (below_grown hB.out (Nat.le_refl _) g5 (fun b hb => by cases hb; exact hp))
        have hbad : Hid (¬ Good D K q0 n) := hide (fun h => o1 (ok_at _ _ _ _ _ h.1 hkn))
        clear g5 o1 kc1 hO hR hB
        go_wp2_with fail
        go_ret2
        exact ⟨fun h => absurd h hbad.out, fun _ => ⟨rfl, hB5.out⟩⟩
    · obtain rfl : k = n := by omega
      have i1 : decide ((k : Int) < (k : Int)) = false := by simp
      have kr1 := Lib.hid (kr.out p g c' _ wr hR.out hqk.out)
      obtain ⟨b, hb⟩ : ∃ b, rsB D K (qF (obF D) q0 k) = b := ⟨_, rfl⟩
      rw [hb] at kr1
      obtain ⟨so, co, rfl, ha, hc1, hc2, hc3⟩ := hO.out.open
      have hah : Hid (ZAt wr .u16 so k (fun i => (ouF (obF D) q0 i : Nat))) := hide ha
      have hbh := Lib.hid hb
      clear ha hb
      go_wp2_with fail
      refine kr1.out.mono ?_
      rintro e w5 ⟨rfl, g5⟩
      have hB5 := Lib.hid (below_grown hB.out (Nat.le_refl _) g5 (fun b hb => by cases hb; exact hp))
      have hO5 := Lib.hid (hO.out.kept g5 (fun b hb => by cases hb; exact hpl))
      have ha5 : Hid (InAt w5 so k (ouF (obF D) q0)) := hide (by
        obtain ⟨s9, c9, he9, h9, _⟩ := hO5.out.open
        cases he9
        exact h9)
      clear g5
      cases b with
      | true =>
        go_wp2_with fail
        go_ret2
        exact ⟨fun _ => ⟨so, co, rfl, ha5.out, hc1, hc2, hB5.out⟩, fun h => absurd ⟨hOk.out, hbh.out⟩ h⟩
      | false =>
        go_wp2_with fail
        go_ret2
        exact ⟨fun h => (by have h3 := h.2; rw [hbh.out] at h3; cases h3), fun _ => ⟨rfl, hB5.out⟩⟩
end Go.Proofs.Ytdpmhfpoendooaa

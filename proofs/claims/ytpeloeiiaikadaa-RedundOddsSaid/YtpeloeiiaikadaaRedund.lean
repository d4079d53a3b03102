/- The contracts of package redund's Target, New, Next and of the document's answer. Conditions: the numbers are integers of 64 bits; the state lies at the pointer. -/
import Derived.Test.YtpeloeiiaikadaaStats5
import Derived.Test.YtpeloeiiaikadaaRec
import Derived.Test.YtpeloeiiaikadaaRead
namespace Go.Proofs.Ytpeloeiiaikadaa
open Go.RowKit
attribute [local irreducible] clampZ floorZ satZ cdZ
/-- the target before it is held, of a loss and a count within their limits -/
def tgL (l k most : Int) : Int := if l = 0 ∨ k = 0 then 0 else clampZ (clampZ (cdZ (k * 65536) (65536 - l)) 0 255 - k + 1) 0 (max most 0)
def tgZ (k loss most : Int) : Int := tgL (clampZ loss 0 65535) (clampZ k 0 16) most
theorem clamp_if (x lo hi n : Int) (hl : lo ≤ hi) (h : x = if n < lo then lo else if n ≤ hi then n else hi) : x = clampZ n lo hi := by
  subst h; unfold clampZ
  split
  · omega
  · split <;> omega
theorem tgL_bd (l k most : Int) (h0 : 0 ≤ l) (h1 : l ≤ 65535) : 0 ≤ tgL l k most ∧ tgL l k most ≤ max most 0 := by
  unfold tgL
  split
  · omega
  · exact clampZ_bd _ _ _ (by omega)
theorem nd_in (l k : Int) (h0 : 0 ≤ l) (h1 : l ≤ 65535) (k0 : 0 ≤ k) (k1 : k ≤ 16) : 0 ≤ clampZ (cdZ (k * 65536) (65536 - l)) 0 255 ∧ clampZ (cdZ (k * 65536) (65536 - l)) 0 255 ≤ 255 := clampZ_bd _ _ _ (by omega)
theorem rst_arr (l : Int) : (Value.agg #[.int .i64 l, .int .i64 0, .int .i64 0, .int .i64 0, .int .i64 0]) = .agg (stA ⟨l, 0, 0, 0, 0⟩) := rfl
theorem ok_l (l : Int) (h0 : 0 ≤ l) (h1 : l ≤ 65535) : StOk ⟨l, 0, 0, 0, 0⟩ 0 := ⟨h0, h1, by simp, by simp, by simp, by simp, by simp, by simp, by simp, by simp⟩
theorem need_s (l k : Int) (W : World) (h0 : 0 ≤ l) (h1 : l ≤ 65535) (k0 : 0 ≤ k) (k1 : k ≤ 16) :
    Calls Try.prog 16 #[.agg #[.int .i64 l, .int .i64 0, .int .i64 0, .int .i64 0, .int .i64 0], .int .i64 k, .int .i64 255] W (ValPost W (.int .i64 (clampZ (cdZ (k * 65536) (65536 - l)) 0 255))) :=
  s_need_q l 0 0 0 0 k 255 k W h0 h1 (by rw [if_neg (by omega)]) (by omega) (by omega)
theorem need_r (l k : Int) (W : World) (h0 : 0 ≤ l) (h1 : l ≤ 65535) (k0 : 0 ≤ k) (k1 : k ≤ 16) :
    Calls Try.prog 17 #[.agg #[.int .i64 l, .int .i64 0, .int .i64 0, .int .i64 0, .int .i64 0], .int .i64 k, .int .i64 255] W (ValPost W (.int .i64 (clampZ (cdZ (k * 65536) (65536 - l)) 0 255))) := by
  have h := r_need ⟨l, 0, 0, 0, 0⟩ 0 k 255 W (ok_l l h0 h1) k0 (by omega) (by omega)
  unfold ndZ at h
  rw [show max k 0 = k by omega, show max (255 : Int) 0 = 255 by omega] at h
  exact h
theorem clamp_max (x m most : Int) (h : m = if most < 0 then 0 else most) : clampZ x 0 m = clampZ x 0 (max most 0) := by
  have : m = max most 0 := by subst h; split <;> omega
  rw [this]
set_option maxHeartbeats 1000000 in
theorem s_target (k loss most : Int) (w : World) :
    Calls Try.prog 8 #[.int .i64 k, .int .i64 loss, .int .i64 most] w (ValPost w (.int .i64 (tgZ k loss most))) := by
  have hl := clampZ_bd loss 0 65535 (by omega)
  have hk := clampZ_bd k 0 16 (by omega)
  have cl := Lib.hid (fun W => w_clamp loss 0 65535 W)
  have ck := Lib.hid (fun W => w_clamp k 0 16 W)
  unfold tgZ tgL
  generalize clampZ loss 0 65535 = l at *
  generalize clampZ k 0 16 = q at *
  obtain ⟨l0, l1⟩ := hl
  obtain ⟨q0, q1⟩ := hk
  by_cases hz : l = 0
  · rw [if_pos (.inl hz)]
    subst hz
    go_enter Try.func8, Try.ntmps8
    go_wp2_with fail
    refine (cl.out _).mono ?_
    rintro e w' ⟨rfl, rfl⟩
    go_wp2_with fail
    refine (ck.out _).mono ?_
    rintro e w' ⟨rfl, rfl⟩
    go_wp2_with fail
    go_ret
    exact ⟨rfl, Below.refl _ _⟩
  · by_cases hq : q = 0
    · rw [if_pos (.inr hq)]
      subst hq
      have hlz : (l == 0) = false := by simp; exact hz
      clear hz
      go_enter Try.func8, Try.ntmps8
      go_wp2_with fail
      refine (cl.out _).mono ?_
      rintro e w' ⟨rfl, rfl⟩
      go_wp2_with fail
      refine (ck.out _).mono ?_
      rintro e w' ⟨rfl, rfl⟩
      go_wp2_with fail
      go_ret
      exact ⟨rfl, Below.refl _ _⟩
    · rw [if_neg (by simp only [not_or]; exact ⟨hz, hq⟩)]
      have hlz : (l == 0) = false := by simp; exact hz
      have hqz : (q == 0) = false := by simp; exact hq
      have hn := nd_in l q l0 l1 q0 q1
      have hnd := Lib.hid (fun W => need_s l q W l0 l1 q0 q1)
      have hcm := Lib.hid (fun m h => clamp_max (clampZ (cdZ (q * 65536) (65536 - l)) 0 255 - q + 1) m most h)
      generalize clampZ (cdZ (q * 65536) (65536 - l)) 0 255 = n at *
      obtain ⟨n0, n1⟩ := hn
      have hB := Lib.hid (fun A : Obj => (Below.refl w.heap.size w).alloc (Nat.le_refl _) A)
      clear hz hq
      go_enter Try.func8, Try.ntmps8
      go_wp2_with fail
      refine (cl.out _).mono ?_
      rintro e w' ⟨rfl, rfl⟩
      go_wp2_with fail
      refine (ck.out _).mono ?_
      rintro e w' ⟨rfl, rfl⟩
      go_wp2_with fail
      refine (hnd.out _).mono ?_
      rintro e w1 ⟨rfl, hb1⟩
      have hb2 := (hB.out _).trans (hb1.mono (Nat.le_of_lt (by show _ < (w.heap.push _).size; rw [Array.size_push]; omega)))
      clear hb1
      go_wp2_with fail
      all_goals
        refine (w_clamp _ 0 _ _).mono ?_
        rintro e w' ⟨rfl, rfl⟩
        go_wp2_with fail
        go_ret
        exact ⟨ret_int (hcm.out _ (by split <;> (first | rfl | omega))), hb2⟩
theorem clamp_mm (x n most : Int) (h : x = if (if n < 0 then 0 else n) ≤ (if most < 0 then 0 else most) then (if n < 0 then 0 else n) else (if most < 0 then 0 else most)) : x = clampZ n 0 (max most 0) := by
  subst h
  unfold clampZ
  split <;> split <;> (try split) <;> omega
theorem tgL_0 (l k most : Int) (h : l = 0 ∨ k = 0) : 0 = tgL l k most := by unfold tgL; rw [if_pos h]
theorem tgL_1 (l k most x : Int) (h : ¬ l = 0) (h2 : ¬ k = 0) (hx : x = clampZ (clampZ (cdZ (k * 65536) (65536 - l)) 0 255 - k + 1) 0 (max most 0)) : x = tgL l k most := by
  unfold tgL; rw [if_neg (by simp only [not_or]; exact ⟨h, h2⟩)]; exact hx
set_option maxHeartbeats 1000000 in
theorem r_target (k loss most : Int) (w : World) :
    Calls Try.prog 9 #[.int .i64 k, .int .i64 loss, .int .i64 most] w (ValPost w (.int .i64 (tgZ k loss most))) := by
  have hl := clampZ_bd loss 0 65535 (by omega)
  have hk := clampZ_bd k 0 16 (by omega)
  have el := Lib.hid (fun x h => clamp_if x 0 65535 loss (by omega) h)
  have ek := Lib.hid (fun x h => clamp_if x 0 16 k (by omega) h)
  unfold tgZ
  generalize clampZ loss 0 65535 = l at *
  generalize clampZ k 0 16 = q at *
  obtain ⟨l0, l1⟩ := hl
  obtain ⟨q0, q1⟩ := hk
  go_enter Try.func9, Try.ntmps9
  go_upto_region 1 with (fail)
  go_cut [0, 1] (fun v0 v1 wx => v0 = .int .i64 q ∧ v1 = .int .i64 l ∧ wx = w)
  case first =>
    go_wp2_with fail
    all_goals
      go_meet
      exact ⟨int_val (ek.out _ (by split <;> (try split) <;> omega)), int_val (el.out _ (by split <;> (try split) <;> omega)), rfl⟩
  case rest =>
    obtain ⟨rfl, rfl, rfl⟩ := hcut
    by_cases hq : q = 0
    · subst hq
      go_wp2_with fail
      go_ret
      exact ⟨ret_int (tgL_0 _ _ _ (.inr rfl)), Below.refl _ _⟩
    · have hqz : (q == 0) = false := by simp; exact hq
      by_cases hz : l = 0
      · subst hz
        clear hq
        go_wp2_with fail
        go_ret
        exact ⟨ret_int (tgL_0 _ _ _ (.inl rfl)), Below.refl _ _⟩
      · have htg := Lib.hid (fun x hx => tgL_1 l q most x hz hq hx)
        have hlz : (l == 0) = false := by simp; exact hz
        have hn := nd_in l q l0 l1 q0 q1
        have hnd := Lib.hid (fun W => need_r l q W l0 l1 q0 q1)
        have hcm := Lib.hid (fun x h => clamp_mm x (clampZ (cdZ (q * 65536) (65536 - l)) 0 255 - q + 1) most h)
        generalize clampZ (cdZ (q * 65536) (65536 - l)) 0 255 = n at *
        obtain ⟨n0, n1⟩ := hn
        clear hz hq
        go_wp2_with fail
        refine (hnd.out _).mono ?_
        rintro e w1 ⟨rfl, hb1⟩
        go_wp2_with fail
        all_goals
          go_ret
          exact ⟨ret_int (htg.out _ (hcm.out _ (by (repeat' split) <;> (first | rfl | omega)))), hb1⟩
end Go.Proofs.Ytpeloeiiaikadaa

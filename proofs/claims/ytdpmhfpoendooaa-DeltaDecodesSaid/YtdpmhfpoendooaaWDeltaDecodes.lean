/- The walk of the law DeltaDecodes: it answers true for all bytes. -/
import Derived.Test.YtdpmhfpoendooaaDeltaSame
namespace Go.Proofs.Ytdpmhfpoendooaa
open Go.RowKit
attribute [local irreducible] OwnB byF apF bitF putF ctF bsF gmF gmN nbF chF chN enN enB dlF lastF pxF obF nuF catF ckN ckV qF lsF ouF OwnZ OkF rsB OkC
set_option maxHeartbeats 2000000 in
/-- both say: nothing, and this error -/
theorem dd_nil (a0 : Option Addr) (len0 cap0 : Nat) (w : World) (code : Int) (hlen : len0 ≤ 2000)
    (k1 : ∀ W, Below w.heap.size w W → Calls Try.prog 28 #[.slice a0 len0 cap0] W (NilPost W code))
    (k2 : ∀ W, Below w.heap.size w W → Calls Try.prog 31 #[.slice a0 len0 cap0] W (NilPost W code)) :
    Calls Try.prog 7 #[.slice a0 len0 cap0] w fun e w' => e = .returned (.bool true) ∧ Below w.heap.size w w' := by
  have k1h := Lib.hid k1
  have k2h := Lib.hid k2
  clear k1 k2
  have d1 : decide (2000 < (len0 : Int)) = false := decide_eq_false (by omega)
  have d1' : decide (2000 < len0) = false := decide_eq_false (by omega)
  go_enter Try.func7, Try.ntmps7
  go_wp2_with fail
  refine (de_awake w).mono ?_
  rintro e w1 ⟨rfl, hb1⟩
  have hb1h := Lib.hid hb1
  clear hb1
  go_wp2_with fail
  refine (k1h.out w1 hb1h.out).mono ?_
  rintro e w2 ⟨rfl, hb2⟩
  have hb2h := Lib.hid (below_step hb1h.out hb1h.out.size hb2)
  clear hb2
  go_wp2_with fail
  refine (k2h.out w2 hb2h.out).mono ?_
  rintro e w3 ⟨rfl, hb3⟩
  have hb3h := Lib.hid (below_step hb2h.out hb2h.out.size hb3)
  clear hb3
  go_wp2_with fail
  refine (de_same0 w3).mono ?_
  rintro e w4 ⟨rfl, m, rfl⟩
  have hb4h := Lib.hid (below_drewN hb3h.out m)
  go_wp2_with fail
  go_ret
  exact ⟨rfl, hb4h.out⟩
set_option maxHeartbeats 2000000 in
/-- both say: these inputs -/
theorem dd_list (a0 : Option Addr) (len0 cap0 n : Nat) (f : Nat → Nat) (w : World) (hlen : len0 ≤ 2000) (hn : n ≤ 4096)
    (k1 : ∀ W, Below w.heap.size w W → Calls Try.prog 28 #[.slice a0 len0 cap0] W (ListPost W n f))
    (k2 : ∀ W, Below w.heap.size w W → Calls Try.prog 31 #[.slice a0 len0 cap0] W (ListPost W n f)) :
    Calls Try.prog 7 #[.slice a0 len0 cap0] w fun e w' => e = .returned (.bool true) ∧ Below w.heap.size w w' := by
  have k1h := Lib.hid k1
  have k2h := Lib.hid k2
  clear k1 k2
  have d1 : decide (2000 < (len0 : Int)) = false := decide_eq_false (by omega)
  have d1' : decide (2000 < len0) = false := decide_eq_false (by omega)
  go_enter Try.func7, Try.ntmps7
  go_wp2_with fail
  refine (de_awake w).mono ?_
  rintro e w1 ⟨rfl, hb1⟩
  have hb1h := Lib.hid hb1
  clear hb1
  go_wp2_with fail
  refine (k1h.out w1 hb1h.out).mono ?_
  rintro e w2 ⟨s, c, rfl, ha, q1, q2, hb2⟩
  have hah := Lib.hid ha
  have hb2h := Lib.hid (below_step hb1h.out hb1h.out.size hb2)
  clear hb2 ha
  go_wp2_with fail
  refine (k2h.out w2 hb2h.out).mono ?_
  rintro e w3 ⟨t, d, rfl, ht, q3, q4, hb3⟩
  have hb3h := Lib.hid (below_step hb2h.out hb2h.out.size hb3)
  have ks := Lib.hid (de_same s t c d n f w3 (hah.out.below hb3) ht (by omega))
  clear hb3 ht
  go_wp2_with fail
  refine ks.out.mono ?_
  rintro e w4 ⟨rfl, m, rfl⟩
  have hb4h := Lib.hid (below_drewN hb3h.out m)
  go_wp2_with fail
  go_ret
  exact ⟨rfl, hb4h.out⟩
theorem nu_pos (β : Nat → Nat) (h : Bit β) (m : Nat) (hz : ∀ j, j < m → β j = 0) (h1 : β m = 1) (hm : m ≤ 63) : ∃ n, nuF β m (m + 1) = n + 1 := by
  have := (gm_read β h m hz h1 hm).1
  exact ⟨nuF β m (m + 1) - 1, by omega⟩
set_option maxHeartbeats 2000000 in
theorem deltaDecodes_walk (a0 : Option Addr) (len0 cap0 : Nat) (z0 : List Int) (w : World) (w0 : IsRow .u8 w a0 len0 cap0 z0) :
    Calls Try.prog 7 #[.slice a0 len0 cap0] w fun e w' => e = .returned (.bool true) ∧ Below w.heap.size w w' := by
  obtain ⟨D, hpv, hD⟩ := pv8_open w0
  have hc0 := hpv.c0
  have hc1 := hpv.c1
  unfold maxLen at hc1
  clear w0
  by_cases hlong : 2000 < len0
  · have d1 : decide (2000 < (len0 : Int)) = true := decide_eq_true (by omega)
    clear hpv hD
    go_enter Try.func7, Try.ntmps7
    go_wp2_with fail
    refine (de_awake w).mono ?_
    rintro e w1 ⟨rfl, hb1⟩
    go_wp2_with fail
    go_ret
    exact ⟨rfl, hb1⟩
  have hlen : len0 ≤ 2000 := by omega
  have hbit : Bit (obF D) := fun j => ob_bit D j
  obtain ⟨m, hm0, hz0, he0⟩ := zeros (obF D) hbit (8 * len0) 0 (by omega)
  have hz : ∀ j, j < m → obF D j = 0 := fun j hj => by have := hz0 j hj; rw [Nat.zero_add] at this; exact this
  have hm : m ≤ 8 * len0 := by omega
  have he : m = 8 * len0 ∨ (m < 8 * len0 ∧ obF D m = 1) := by
    rcases he0 with h | ⟨h, h1⟩
    · exact .inl (by omega)
    · rw [Nat.zero_add] at h1; exact .inr ⟨by omega, h1⟩
  by_cases hno : 63 < m ∨ 8 * len0 < 2 * m + 1
  · exact dd_nil a0 len0 cap0 w 73 hlen (fun W hb => d_dec_bad a0 len0 cap0 D W (hpv.below hb) hD (by omega) m hz hm he hno) (fun W hb => dr_dec_bad a0 len0 cap0 D W (hpv.below hb) hD (by omega) m hz hm he hno)
  have h1 : obF D m = 1 := by
    rcases he with h | ⟨_, h⟩
    · omega
    · exact h
  by_cases hM : 4097 < nuF (obF D) m (m + 1)
  · exact dd_nil a0 len0 cap0 w 2 hlen (fun W hb => d_dec_long a0 len0 cap0 D W (hpv.below hb) hD (by omega) m hz h1 (by omega) (by omega) hM) (fun W hb => dr_dec_long a0 len0 cap0 D W (hpv.below hb) hD (by omega) m hz h1 (by omega) (by omega) hM)
  obtain ⟨n, hn⟩ := nu_pos (obF D) hbit m hz h1 (by omega)
  have hn2 : n ≤ 4096 := by omega
  have k1 := fun W hb => d_dec a0 len0 cap0 D W (hpv.below hb) hD (by omega) m hz h1 (by omega) (by omega) n hn hn2
  have k2 := fun W hb => dr_dec a0 len0 cap0 D W (hpv.below hb) hD (by omega) m hz h1 (by omega) (by omega) n hn hn2
  by_cases hg : Good D len0 (2 * m + 1) n
  · exact dd_list a0 len0 cap0 n _ w hlen hn2 (fun W hb => (k1 W hb).mono fun e w' h => h.1 hg) (fun W hb => (k2 W hb).mono fun e w' h => h.1 hg)
  · exact dd_nil a0 len0 cap0 w 73 hlen (fun W hb => (k1 W hb).mono fun e w' h => h.2 hg) (fun W hb => (k2 W hb).mono fun e w' h => h.2 hg)
end Go.Proofs.Ytdpmhfpoendooaa

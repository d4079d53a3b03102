/- The contracts of the document's Degree, At, Is, Add, Mul, Eval of layer 4. Conditions: the slices read as the functions named. -/
import Derived.Test.YtmdpbacjcidpgaaPoly
import Derived.Laws.AppendOwnNone
namespace Go.Proofs.Ytmdpbacjcidpgaa
open Go.RowKit
attribute [local irreducible] gexp gtbl glog rmul rinv rpow zexp
attribute [local irreducible] td
set_option maxHeartbeats 1000000 in
theorem r_degree (s : Option Addr) (n cap : Nat) (f : Nat → Nat) (w : World) (hp : Pv w s n cap f) (hn : n ≤ 100000) :
    Calls Try.prog 11 #[.slice s n cap] w fun e w' => e = .returned (.int .i64 ((td f n : Nat) - 1)) ∧ w = w' := by
  have hrdh := Lib.hid hp.rd
  have h0 : Hid (td f 0 = 0) := hide (by unfold td; rfl)
  clear hp
  go_enter Try.func11, Try.ntmps11
  go_wp2_with fail
  go_loop [3, 4] (fun d v => ∃ k : Nat, k ≤ n ∧ v = .int .i64 k ∧ d = .int .i64 ((td f k : Nat) - 1)) (fun _ v => n - (intOf v).toNat)
  case atStart => exact ⟨0, Nat.zero_le _, rfl, by rw [h0.out]; rfl⟩
  case round =>
    obtain ⟨k, hk, rfl, rfl⟩ := hrel
    by_cases hlt : k < n
    · obtain ⟨b, off, rfl, hc⟩ := hrdh.out k hlt
      have i1 : (k : Int) < (n : Int) := by omega
      have hstep := Lib.hid (fun h => td_next_z f k h)
      have hstop := Lib.hid (fun h => td_next_n f k h)
      generalize hfj : f k = y at *
      have hfjh := Lib.hid hfj
      clear hfj
      by_cases hy : y = 0
      · have d := bne_nat0 y hy
        have e1 := Lib.hid (hstep.out hy)
        clear hy
        go_wp2_with fail
        go_round
        case rel => exact ⟨k + 1, by omega, by go_num, by rw [e1.out]⟩
        case measure => simp [intOf]; omega
      · have d := bne_nat1 y hy
        have e1 := Lib.hid (hstop.out hy)
        clear hy hstep hstop
        go_wp2_with fail
        go_round
        case rel => exact ⟨k + 1, by omega, by go_num, by rw [e1.out]; go_num⟩
        case measure => simp [intOf]; omega
    · obtain rfl : k = n := by omega
      go_wp2_with fail
      go_ret
      exact ⟨rfl, rfl⟩
set_option maxHeartbeats 1000000 in
theorem r_at (s : Option Addr) (n cap : Nat) (i : Int) (f : Nat → Nat) (w : World) (hrd : By w s n f) (hz : Zr n f) (h0 : 0 ≤ i) (hn : n ≤ 100000) :
    Calls Try.prog 19 #[.slice s n cap, .int .i64 i] w fun e w' => e = .returned (.int .u8 (f i.toNat : Nat)) ∧ w = w' := by
  obtain ⟨k, rfl⟩ : ∃ k : Nat, i = k := ⟨i.toNat, by omega⟩
  rw [Int.toNat_natCast]
  have d0 : decide ((k : Int) < 0) = false := decide_eq_false (by omega)
  by_cases hlt : k < n
  · obtain ⟨b, off, rfl, hc⟩ := hrd k hlt
    have d1 : decide (k ≥ n) = false := decide_eq_false (by omega)
    have i1 : (k : Int) < (n : Int) := by omega
    clear hrd hz
    go_enter Try.func19, Try.ntmps19
    go_wp2_with fail
    go_ret
    exact ⟨rfl, rfl⟩
  · rw [hz k (by omega)]
    have d1 : decide (k ≥ n) = true := decide_eq_true (by omega)
    clear hrd hz
    go_enter Try.func19, Try.ntmps19
    go_wp2_with fail
    go_ret
    exact ⟨rfl, rfl⟩
/-- Is, where it is so -/
theorem r_is (s t : Option Addr) (n m cs ct : Nat) (f : Nat → Nat) (w : World) (hs : Pv w s n cs f) (ht : Pv w t m ct f) (hnm : n = td f m) (hn : n ≤ 100000) (hm : m ≤ 100000) :
    Calls Try.prog 20 #[.slice s n cs, .slice t m ct] w (Ret w (.bool true)) := by
  have hsh := Lib.hid hs.rd
  have hth := Lib.hid ht.rd
  have hdg := Lib.hid (r_degree t m ct f w ht hm)
  have hle := td_le f m
  have hnmh := Lib.hid hnm
  have e1 : ((td f m : Nat) : Int) - 1 + 1 = (n : Int) := by omega
  clear hs ht hnm
  generalize td f m = d at *
  obtain rfl : d = n := hnmh.out.symm
  clear hnmh e1
  go_enter Try.func20, Try.ntmps20
  go_wp2_with fail
  refine hdg.out.mono ?_
  rintro e w' ⟨rfl, rfl⟩
  go_wp2_with fail
  go_loopw [5] (fun v wr => ∃ k : Nat, k ≤ d ∧ v = .int .i64 k ∧ Below w.heap.size w wr) (fun v _ => d - (intOf v).toNat)
  case atStart => exact ⟨0, Nat.zero_le _, rfl, Below.refl _ _⟩
  case round =>
    obtain ⟨k, hk, rfl, hB⟩ := hrel
    by_cases hlt : k < d
    · obtain ⟨b, off, rfl, hc⟩ := hsh.out k hlt
      obtain ⟨b2, off2, rfl, hc2⟩ := hth.out k (by omega)
      have i1 : (k : Int) < (d : Int) := by omega
      have i2 : (k : Int) < (m : Int) := by omega
      have h1 := (hB.cell (p := ⟨b, off + k, none⟩) (cell_block_lt hc)).trans hc
      have h2 := (hB.cell (p := ⟨b2, off2 + k, none⟩) (cell_block_lt hc2)).trans hc2
      clear hc hc2
      go_upto_region 6 with (fail)
      go_quiet (fail)
      go_wp2_with fail
      go_roundw
      case rel => exact ⟨k + 1, by omega, by go_num, below_drewN hB _⟩
      case measure => simp [intOf]; omega
    · obtain rfl : k = d := by omega
      go_wp2_with fail
      go_ret
      exact ⟨rfl, hB⟩
attribute [local irreducible] ev
set_option maxHeartbeats 1000000 in
theorem r_eval (s : Option Addr) (n cap x : Nat) (f : Nat → Nat) (w : World) (hrd : By w s n f) (hn : n ≤ 100000) (hx : x < 256) (hf : Bd f) :
    Calls Try.prog 12 #[.slice s n cap, .int .u8 x] w fun e w' => e = .returned (.int .u8 (ev f x n : Nat)) ∧ w = w' := by
  have hrdh := Lib.hid hrd
  have hfh := Lib.hid hf
  have h0 : Hid (ev f x 0 = 0) := hide (by unfold ev; rfl)
  have hs : Hid (∀ k, ev f x (k + 1) = ev f x k ^^^ rmul (f k) (rpow x k)) := hide (fun k => by rw [ev])
  have hlt := Lib.hid (fun k => ev_lt f x k)
  clear hrd hf
  go_enter Try.func12, Try.ntmps12
  go_wp2_with fail
  go_loop [5, 6, 7] (fun y q v => ∃ k : Nat, k ≤ n ∧ v = .int .i64 k ∧ y = .int .u8 (ev f x k : Nat) ∧ q = .int .u8 (rpow x k : Nat)) (fun _ _ v => n - (intOf v).toNat)
  case atStart => exact ⟨0, Nat.zero_le _, rfl, by rw [h0.out]; rfl, by rw [rpow_zero]; rfl⟩
  case round =>
    obtain ⟨k, hk, rfl, rfl, rfl⟩ := hrel
    by_cases hlt2 : k < n
    · obtain ⟨b, off, rfl, hc⟩ := hrdh.out k hlt2
      have i1 : (k : Int) < (n : Int) := by omega
      have e1 := Lib.hid (hs.out k)
      have e2 := Lib.hid (rpow_succ x k)
      have l1 := hlt.out k
      have l2 := hfh.out k
      have l3 := rpow_lt x k
      have k1 := Lib.hid (fun W => ref_mul (f k) (rpow x k) W l2 l3)
      have k2 := Lib.hid (fun W => ref_mul (rpow x k) x W l3 hx)
      have hu := hide (u8_xor_nat (ev f x k) (rmul (f k) (rpow x k)) l1 (rmul_lt _ _))
      go_wp2_with fail
      refine (k1.out _).mono ?_
      rintro e w' ⟨rfl, rfl⟩
      go_wp2_with fail
      refine (k2.out _).mono ?_
      rintro e w' ⟨rfl, rfl⟩
      go_wp2_with fail
      go_round
      case rel => exact ⟨k + 1, by omega, by go_num, by rw [hu.out, e1.out], by rw [e2.out]⟩
      case measure => simp [intOf]; omega
    · obtain rfl : k = n := by omega
      go_wp2_with fail
      go_ret
      exact ⟨rfl, rfl⟩
end Go.Proofs.Ytmdpbacjcidpgaa

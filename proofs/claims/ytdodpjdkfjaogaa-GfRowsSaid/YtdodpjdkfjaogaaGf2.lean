/- More contracts of package gf: Inv, Div, Log, Exp, Pow, Add, Dot; and of the document's answer: Inv, Pow, Dot. Conditions: the tables lie as New makes them; the slices read as the lists named. -/
import Derived.Test.YtdodpjdkfjaogaaGf
import Derived.Test.YtdodpjdkfjaogaaGfRef
namespace Go.Proofs.Ytdodpjdkfjaogaa
open Go.RowKit
attribute [local irreducible] gexp gtbl glog rmul rinv rpow zexp xorl

set_option maxHeartbeats 400000 in
theorem gf_inv (p a : Nat) (w : World) (hg : IsGf w p) (ha : a < 256) (a0 : a ≠ 0) :
    Calls Try.prog 13 #[.pointer (some ⟨p, 0, none⟩), .int .u8 a] w fun e w' => e = .returned (.tuple #[.int .u8 (rinv a : Nat), .int .i64 0]) ∧ ∃ n, w' = w.drewN n := by
  have e0 : ((a : Int) == 0) = false := by simp; exact a0
  have la := glog_lt a ha a0
  have c1 := hg.log a ha a0
  have c3 := hg.exp (255 - glog a) (by omega)
  have hr : Hid (rinv a = gexp (255 - glog a)) := by rw [rinv_eq a a0]; exact rfl
  clear hg
  go_enter Try.func13, Try.ntmps13
  go_wp2
  go_quiet (fail)
  go_wp2
  go_ret2
  exact ⟨by rw [hr.out]; rfl, _, rfl⟩

theorem gf_inv0 (p : Nat) (w : World) :
    Calls Try.prog 13 #[.pointer (some ⟨p, 0, none⟩), .int .u8 0] w fun e w' => e = .returned (.tuple #[.int .u8 0, .int .i64 30]) ∧ w = w' := by
  go_enter Try.func13, Try.ntmps13
  go_wp2
  go_ret2
  exact ⟨rfl, rfl⟩

theorem gf_div (p a b : Nat) (w : World) (hg : IsGf w p) (ha : a < 256) (hb : b < 256) (b0 : b ≠ 0) :
    Calls Try.prog 14 #[.pointer (some ⟨p, 0, none⟩), .int .u8 a, .int .u8 b] w fun e w' => e = .returned (.tuple #[.int .u8 (rmul a (rinv b) : Nat), .int .i64 0]) ∧ ∃ n, w' = w.drewN n := by
  have hl := rinv_lt b
  go_enter Try.func14, Try.ntmps14
  go_wp2_with fail
  refine (gf_inv p b w hg hb b0).mono ?_
  rintro e w' ⟨rfl, n, rfl⟩
  go_wp2_with fail
  refine (gf_mul p a (rinv b) (w.drewN n) hg ha hl).mono ?_
  rintro e w' ⟨rfl, m, rfl⟩
  go_wp2_with fail
  go_ret2
  exact ⟨rfl, _, rfl⟩

theorem gf_div0 (p a : Nat) (w : World) :
    Calls Try.prog 14 #[.pointer (some ⟨p, 0, none⟩), .int .u8 a, .int .u8 0] w fun e w' => e = .returned (.tuple #[.int .u8 0, .int .i64 30]) ∧ w = w' := by
  go_enter Try.func14, Try.ntmps14
  go_wp2_with fail
  refine (gf_inv0 p w).mono ?_
  rintro e w' ⟨rfl, rfl⟩
  go_wp2_with fail
  go_ret2
  exact ⟨rfl, rfl⟩

theorem gf_log (p a : Nat) (w : World) (hg : IsGf w p) (ha : a < 256) (a0 : a ≠ 0) :
    Calls Try.prog 16 #[.pointer (some ⟨p, 0, none⟩), .int .u8 a] w fun e w' => e = .returned (.tuple #[.int .i64 (glog a : Nat), .int .i64 0]) ∧ ∃ n, w' = w.drewN n := by
  have e0 : ((a : Int) == 0) = false := by simp; exact a0
  have la := glog_lt a ha a0
  have c1 := hg.log a ha a0
  clear hg
  go_enter Try.func16, Try.ntmps16
  go_wp2
  go_ret2
  exact ⟨rfl, 0, rfl⟩
theorem gf_log0 (p : Nat) (w : World) :
    Calls Try.prog 16 #[.pointer (some ⟨p, 0, none⟩), .int .u8 0] w fun e w' => e = .returned (.tuple #[.int .i64 0, .int .i64 30]) ∧ w = w' := by
  go_enter Try.func16, Try.ntmps16
  go_wp2
  go_ret2
  exact ⟨rfl, rfl⟩

theorem exp_idx (n : Int) (h1 : -9223372036854775808 ≤ n) (h2 : n ≤ 9223372036854775807) : (wrap64 (n.tmod 255 + 255)).tmod 255 = n % 255 := by
  rcases Int.le_total 0 n with h | h
  · rw [Int.tmod_eq_emod_of_nonneg h, IntWalk.wrap64_in _ ⟨by omega, by omega⟩, Int.tmod_eq_emod_of_nonneg (by omega)]
    omega
  · have e : n.tmod 255 = -((-n) % 255) := by
      rw [← Int.tmod_eq_emod_of_nonneg (a := -n) (by omega), Int.neg_tmod, Int.neg_neg]
    rw [e, IntWalk.wrap64_in _ ⟨by omega, by omega⟩, Int.tmod_eq_emod_of_nonneg (by omega)]
    omega
theorem gf_exp (p : Nat) (n : Int) (w : World) (hg : IsGf w p) (hn : -9223372036854775808 ≤ n ∧ n ≤ 9223372036854775807) :
    Calls Try.prog 17 #[.pointer (some ⟨p, 0, none⟩), .int .i64 n] w fun e w' => e = .returned (.int .u8 (zexp n : Nat)) ∧ w = w' := by
  have c1 := hg.exp ((n % 255).toNat) (by omega)
  have hi := hide (exp_idx n hn.1 hn.2)
  have hb : 0 ≤ (wrap64 (n.tmod 255 + 255)).tmod 255 ∧ (wrap64 (n.tmod 255 + 255)).tmod 255 < 510 := by rw [hi.out]; omega
  rw [← hi.out] at c1
  have hz : Hid (zexp n = gexp ((wrap64 (n.tmod 255 + 255)).tmod 255).toNat) := by rw [hi.out, zexp_eq]; exact rfl
  clear hg hn hi
  go_enter Try.func17, Try.ntmps17
  go_wp2
  go_ret
  exact ⟨ret_int (by rw [hz.out]), rfl⟩

/-- the answer of Pow: the element, the error's number -/
def gpowr (a : Nat) (n : Int) : Nat := if n = 0 then 1 else if a = 0 then 0 else zexp (glog a * (n.tmod 255))
theorem gf_pow (p a : Nat) (n : Int) (w : World) (hg : IsGf w p) (ha : a < 256) (hn : -9223372036854775808 ≤ n ∧ n ≤ 9223372036854775807) :
    Calls Try.prog 19 #[.pointer (some ⟨p, 0, none⟩), .int .u8 a, .int .i64 n] w fun e w' =>
      e = .returned (.tuple #[.int .u8 (gpowr a n : Nat), .int .i64 (if a = 0 ∧ n < 0 then 30 else 0)]) ∧ ∃ n, w' = w.drewN n := by
  by_cases n0 : n = 0
  · subst n0
    go_enter Try.func19, Try.ntmps19
    go_wp2
    go_ret2
    exact ⟨by simp [gpowr], 0, rfl⟩
  · have e0 : (n == 0) = false := by simp; exact n0
    by_cases a0 : a = 0
    · subst a0
      by_cases hneg : n < 0
      · go_enter Try.func19, Try.ntmps19
        go_wp2
        all_goals (go_ret2; exact ⟨by simp [gpowr, n0], 0, rfl⟩)
      · go_enter Try.func19, Try.ntmps19
        go_wp2
        all_goals (go_ret2; exact ⟨by simp [gpowr, n0], 0, rfl⟩)
    · have e1 : ((a : Int) == 0) = false := by simp; exact a0
      have la := glog_lt a ha a0
      have c1 := hg.log a ha a0
      have hm : -254 ≤ n.tmod 255 ∧ n.tmod 255 ≤ 254 := by
        have h1 := Int.tmod_lt_of_pos n (b := 255) (by decide)
        have h2 := Int.lt_tmod_of_pos n (b := 255) (by decide)
        omega
      have hb : -64516 ≤ (glog a : Int) * (n.tmod 255) ∧ (glog a : Int) * (n.tmod 255) ≤ 64516 := by
        obtain ⟨m1, m2⟩ := hm
        generalize n.tmod 255 = m at *
        constructor
        · have := Int.mul_le_mul_of_nonneg_left m1 (show (0 : Int) ≤ glog a by omega)
          omega
        · have := Int.mul_le_mul_of_nonneg_left m2 (show (0 : Int) ≤ glog a by omega)
          omega
      obtain ⟨hb1, hb2⟩ := hb
      clear hm
      go_enter Try.func19, Try.ntmps19
      go_wp2_with fail
      refine (gf_exp p _ _ hg ⟨by omega, by omega⟩).mono ?_
      rintro e w' ⟨rfl, rfl⟩
      go_wp2_with fail
      go_ret2
      exact ⟨by simp [gpowr, n0, a0], 0, rfl⟩

set_option maxHeartbeats 400000 in
theorem gf_add (s : Option Addr) (cap : Nat) (l : List Nat) (w : World) (hs : SlN .u8 w s l) (hl : ∀ x ∈ l, x < 256) (hn : l.length ≤ 9223372036854775807) :
    Calls Try.prog 18 #[.slice s l.length cap] w fun e w' => e = .returned (.int .u8 (xorl l : Nat)) ∧ w = w' := by
  have hsh := hide hs
  have hlh := hide hl
  clear hs hl
  go_enter Try.func18, Try.ntmps18
  go_wp2_with fail
  go_loop [3, 8] (fun v i => ∃ k : Nat, k ≤ l.length ∧ i = .int .i64 k ∧ v = .int .u8 (xorl (l.take k) : Nat)) (fun _ i => l.length - (intOf i).toNat)
  case atStart => exact ⟨0, by omega, rfl, by rw [List.take_zero, xorl_nil]; rfl⟩
  case round =>
    obtain ⟨k, hk, rfl, rfl⟩ := hrel
    by_cases hlt : k < l.length
    · obtain ⟨x, hx⟩ : ∃ x, l[k]? = some x := ⟨_, List.getElem?_eq_getElem hlt⟩
      obtain ⟨b, off, rfl, hc⟩ := hsh.out k x hx
      have hx1 := xorl_lt l hlh.out k
      have hx2 := hlh.out x (List.mem_of_getElem? hx)
      have he := hide (xorl_take l k x hx)
      have hu := hide (u8_xor_nat (xorl (l.take k)) x hx1 hx2)
      clear hx hsh hlh
      go_wp2_with fail
      rw [hu.out, ← he.out]
      go_round
      case rel => exact ⟨k + 1, by omega, by go_num, rfl⟩
      case measure => simp [intOf]; omega
    · obtain rfl : k = l.length := by omega
      go_wp2_with fail
      go_ret
      exact ⟨rfl, rfl⟩
end Go.Proofs.Ytdodpjdkfjaogaa

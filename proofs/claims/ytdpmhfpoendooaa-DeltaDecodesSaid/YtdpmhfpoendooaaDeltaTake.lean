/- The contracts of the document's Take, of NewReader, of Gamma on a bad reader. -/
import Derived.Test.YtdpmhfpoendooaaDeltaAll
namespace Go.Proofs.Ytdpmhfpoendooaa
open Go.RowKit
theorem By.part {w : World} {s : Option Addr} {n : Nat} {f : Nat → Nat} (h : By w s n f) (b off : Nat) (hs : s = some ⟨b, off, none⟩) (a m : Nat) (ha : a + m ≤ n) : By w (some ⟨b, off + a, none⟩) m (fun j => f (a + j)) := by
  intro i hi
  obtain ⟨b', o', h1, h2⟩ := h (a + i) (by omega)
  rw [hs] at h1
  cases h1
  exact ⟨b, off + a, rfl, by rw [Nat.add_assoc]; exact h2⟩
theorem bit_shift {β : Nat → Nat} (h : Bit β) (q : Nat) : Bit (fun j => β (q + j)) := fun j => h _
attribute [local irreducible] OwnB byF apF bitF putF ctF bsF gmF gmN nbF chF chN enN enB dlF lastF pxF obF nuF catF
set_option maxHeartbeats 2000000 in
theorem dr_take_yes (s : Option Addr) (T c n : Nat) (β : Nat → Nat) (w : World) (hs : Pv w s T c β) (hb : Bit β) (hz : ∀ j, j < n → β j = 0) (h1 : β n = 1) (hn : n ≤ 63) (hT : 2 * n + 1 ≤ T) (hT2 : T ≤ 10000000) :
    Calls Try.prog 22 #[.slice s T c] w (fun e w' => e = .returned (.tuple #[.int .u64 (nuF β n (n + 1) : Nat), .int .i64 (2 * (n : Int) + 1)]) ∧ w = w') := by
  obtain ⟨b0, o0, hse, _⟩ := hs.rd n (by omega)
  subst hse
  have hc0 := hs.c0
  have hc1 := hs.c1
  unfold maxLen at hc1
  have kn := Lib.hid (dr_number (some ⟨b0, o0 + n, none⟩) (n + 1) (c - n) (fun j => β (n + j)) w (hs.rd.part b0 o0 rfl n (n + 1) (by omega)) (bit_shift hb n) (by omega))
  rw [nu_shift, Nat.add_zero] at kn
  have kt : Hid (Calls Try.prog 26 #[.slice (some ⟨b0, o0 + n, none⟩) (2 * n + 1 - n) (c - n)] w (fun e w' => e = .returned (.int .u64 (nuF β n (n + 1) : Nat)) ∧ w = w')) := hide (by rw [show 2 * n + 1 - n = n + 1 by omega]; exact kn.out)
  clear kn
  have hsh := Lib.hid hs.rd
  have hzh := Lib.hid hz
  have h1h := Lib.hid h1
  have e1 : IntKind.i64.wrap (2 * (n : Int)) = 2 * (n : Int) := IntWalk.i64_in _ (by omega)
  have e2 : IntKind.i64.wrap (2 * (n : Int) + 1) = 2 * (n : Int) + 1 := IntWalk.i64_in _ (by omega)
  have d2 : decide ((n : Int) > 63) = false := decide_eq_false (by omega)
  have d3 : decide (2 * (n : Int) + 1 > (T : Int)) = false := decide_eq_false (by omega)
  clear hs hz h1 hb
  go_enter Try.func22, Try.ntmps22
  go_wp2_with fail
  go_loop [4] (fun iv => ∃ j : Nat, j ≤ n ∧ iv = .int .i64 (j : Nat)) (fun iv => n - (intOf iv).toNat)
  case atStart => exact ⟨0, Nat.zero_le _, rfl⟩
  case round =>
    obtain ⟨j, hj, rfl⟩ := hrel
    have d1 : decide ((j : Int) < (T : Int)) = true := decide_eq_true (by omega)
    obtain ⟨b1, o1, hse, c0⟩ := hsh.out j (by omega)
    cases hse
    by_cases hjn : j < n
    · rw [hzh.out j hjn] at c0
      go_wp2_with fail
      go_round
      case rel => exact ⟨j + 1, by omega, by go_num⟩
      case measure => simp [intOf]; omega
    · obtain rfl : j = n := by omega
      rw [h1h.out] at c0
      go_wp2_with fail
      refine kt.out.mono ?_
      rintro e w' ⟨rfl, rfl⟩
      go_wp2_with fail
      go_ret2
      exact ⟨rfl, rfl⟩
set_option maxHeartbeats 2000000 in
theorem dr_take_no (s : Option Addr) (T c m : Nat) (β : Nat → Nat) (w : World) (hs : Pv w s T c β) (hz : ∀ j, j < m → β j = 0) (hmT : m ≤ T) (he : m = T ∨ (m < T ∧ β m = 1)) (hno : 63 < m ∨ T < 2 * m + 1) (hT2 : T ≤ 10000000) :
    Calls Try.prog 22 #[.slice s T c] w (fun e w' => e = .returned (.tuple #[.int .u64 0, .int .i64 0]) ∧ w = w') := by
  have hsh := Lib.hid hs.rd
  have hzh := Lib.hid hz
  have heh := Lib.hid he
  have e1 : IntKind.i64.wrap (2 * (m : Int)) = 2 * (m : Int) := IntWalk.i64_in _ (by omega)
  have e2 : IntKind.i64.wrap (2 * (m : Int) + 1) = 2 * (m : Int) + 1 := IntWalk.i64_in _ (by omega)
  have d2 : decide ((m : Int) > 63) = true ∨ (decide ((m : Int) > 63) = false ∧ decide (2 * (m : Int) + 1 > (T : Int)) = true) := by
    by_cases h : 63 < m
    · exact .inl (decide_eq_true (by omega))
    · exact .inr ⟨decide_eq_false (by omega), decide_eq_true (by omega)⟩
  clear hs hz he
  go_enter Try.func22, Try.ntmps22
  go_wp2_with fail
  go_loop [4] (fun iv => ∃ j : Nat, j ≤ m ∧ iv = .int .i64 (j : Nat)) (fun iv => m - (intOf iv).toNat)
  case atStart => exact ⟨0, Nat.zero_le _, rfl⟩
  case round =>
    obtain ⟨j, hj, rfl⟩ := hrel
    by_cases hjn : j < m
    · have d1 : decide ((j : Int) < (T : Int)) = true := decide_eq_true (by omega)
      obtain ⟨b1, o1, hse, c0⟩ := hsh.out j (by omega)
      subst hse
      rw [hzh.out j hjn] at c0
      go_wp2_with fail
      go_round
      case rel => exact ⟨j + 1, by omega, by go_num⟩
      case measure => simp [intOf]; omega
    · obtain rfl : j = m := by omega
      rcases heh.out with h | ⟨h, h1⟩
      · have d1 : decide ((j : Int) < (T : Int)) = false := decide_eq_false (by omega)
        have d1' : decide (j < T) = false := decide_eq_false (by omega)
        clear h
        rcases d2 with d2 | ⟨d2, d3⟩
        · have _ := d1
          go_wp2_with fail
          all_goals
            go_ret2
            exact ⟨rfl, rfl⟩
        · have _ := d1
          go_wp2_with fail
          all_goals
            go_ret2
            exact ⟨rfl, rfl⟩
      · have d1 : decide ((j : Int) < (T : Int)) = true := decide_eq_true (by omega)
        obtain ⟨b1, o1, hse, c0⟩ := hsh.out j h
        subst hse
        rw [h1] at c0
        clear h
        rcases d2 with d2 | ⟨d2, d3⟩
        · have _ := d1
          go_wp2_with fail
          all_goals
            go_ret2
            exact ⟨rfl, rfl⟩
        · have _ := d1
          go_wp2_with fail
          all_goals
            go_ret2
            exact ⟨rfl, rfl⟩
def NewPost (w : World) (L : Nat) (D : Nat → Nat) (e : Ending) (w' : World) : Prop := ∃ p g c, e = .returned (.pointer (some ⟨p, 0, none⟩)) ∧ RdAt w' p g c L 0 false D ∧ w.heap.size ≤ p ∧ w.heap.size ≤ g ∧ Below w.heap.size w w'
set_option maxHeartbeats 2000000 in
theorem d_new (s : Option Addr) (L c : Nat) (D : Nat → Nat) (w : World) (hs : Pv w s L c D) (hL : L ≤ 1000000) :
    Calls Try.prog 18 #[.slice s L c] w (NewPost w L D) := by
  have hsh := Lib.hid hs
  clear hs
  go_enter Try.func18, Try.ntmps18
  go_wp2_with (at_builtin; refine wpList_appB rfl (.tmp 3) (.tmp 4) rfl w rfl rfl s c L D rfl hsh.out.rd hsh.out.nil (by omega) ?_; intro g c2 w4 h1 h2 h3 h4 h5)
  have hB : Below w.heap.size w (w4.alloc (.cells #[.slice (some ⟨g, 0, none⟩) L c2, .int .i64 0, .bool false] 66)) := h5.trans ((below_new1 w4 _).mono h5.size)
  have hR : RdAt (w4.alloc (.cells #[.slice (some ⟨g, 0, none⟩) L c2, .int .i64 0, .bool false] 66)) w4.heap.size g c2 L 0 false D := ⟨last_block0 w4 _ _ rfl, h4.below (below_new1 w4 _) h4.lt, by have := h4.lt; omega⟩
  have hsz := h5.size
  go_ret
  exact ⟨w4.heap.size, g, c2, rfl, hR, hsz, h1, hB⟩
end Go.Proofs.Ytdpmhfpoendooaa

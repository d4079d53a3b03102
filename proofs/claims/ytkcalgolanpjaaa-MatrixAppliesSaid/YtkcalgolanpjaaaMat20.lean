/- The contract of package matrix's Apply where it refuses. -/
import Derived.Test.YtkcalgolanpjaaaMat19
namespace Go.Proofs.Ytkcalgolanpjaaa
open Go.RowKit
theorem LensAt.get {w : World} {s : Option Addr} {m i : Nat} {L : Nat → Nat} (h : LensAt w s m L) (hi : i < m) : ∃ b off a k, s = some ⟨b, off, none⟩ ∧ w.cell? ⟨b, off + i, none⟩ = some (.slice a (L i) k) := h i hi
attribute [local irreducible] gexp gtbl glog rmul rinv rpow zexp mixF blk wLoad wLoadRes loadAns wStore wStoreRes storeAns Plain flF BRow MRow MAt By IsGf dtF nK RowsAt LensAt
attribute [local go_sem ↓] ld_m0 ld_x0 sto_m0 sto_x0
attribute [local go_sem] ld_m ld_x sto_m sto_x loadAns_some storeAns_some mx_size mx_plain blk_alloc_if blk_setRow_if blk_drew_at blk_drewN_at rowPut_some blk_setCell_if cellPut_some
set_option maxRecDepth 100000 in
set_option maxHeartbeats 4000000 in
theorem m_apply_no (p : Value) (r c : Int) (a s : Option Addr) (len cap m scap : Nat) (w : World) (h : rightB r c len = false ∨ (m : Int) ≠ c) :
    Calls Try.prog 33 #[p, .agg #[.int .i64 r, .int .i64 c, .slice a len cap], .slice s m scap] w (ApNo w 50) := by
  have hB := below_one w (.cells #[.int .i64 r, .int .i64 c, .slice a len cap] 24)
  have h0 := last_block0 w (.cells #[.int .i64 r, .int .i64 c, .slice a len cap] 24) _ rfl
  have hsz : w.heap.size < (w.alloc (.cells #[.int .i64 r, .int .i64 c, .slice a len cap] 24)).heap.size := by show _ < (w.heap.push _).size; rw [Array.size_push]; omega
  have krt := Lib.hid (fun y => m_right r c a len cap y)
  obtain ⟨b, hb⟩ : ∃ b, rightB r c len = b := ⟨_, rfl⟩
  rw [hb] at krt h
  clear hb
  go_enter Try.func33, Try.ntmps33
  go_upto_region 1 with (fail)
  generalize World.alloc w _ = W at *
  have h0h := Lib.hid (blk_of h0)
  have hBh := Lib.hid hB
  have b0 := h0h.out
  clear h0 hB
  go_wp2_with fail
  refine (krt.out W).mono ?_
  rintro e w2 ⟨rfl, hb2⟩
  have b2 := (blk_below hb2 hsz).trans h0h.out
  have c1 : w2.cell? ⟨w.heap.size, 1, none⟩ = some (.int .i64 c) := (cell_of_block (blk_heap b2)).trans rfl
  have hB2 := Lib.hid (hBh.out.trans (hb2.mono (Nat.le_of_lt hsz)))
  clear hb2 b0
  cases b with
  | false =>
    clear h
    go_wp2_with fail
    go_ret2
    exact ⟨rfl, hB2.out⟩
  | true =>
    have hne := beq_i (h.resolve_left (by simp))
    clear h
    go_wp2_with fail
    go_ret2
    exact ⟨rfl, hB2.out⟩
set_option maxRecDepth 100000 in
set_option maxHeartbeats 4000000 in
theorem m_apply_len (p : Value) (R C q : Nat) (a s : Option Addr) (cap scap : Nat) (L : Nat → Nat) (w : World) (hs : LensAt w s C L) (hR : R ≤ 255) (hC : C ≤ 255) (hq0 : 0 < q) (hq : q < C) (hb : ∀ j, j < q → L j = L 0) (hne : L q ≠ L 0) :
    Calls Try.prog 33 #[p, .agg #[.int .i64 (R : Nat), .int .i64 (C : Nat), .slice a (R * C) cap], .slice s C scap] w (ApNo w 61) := by
  have hB := below_one w (.cells #[.int .i64 (R : Nat), .int .i64 (C : Nat), .slice a (R * C) cap] 24)
  have h0 := last_block0 w (.cells #[.int .i64 (R : Nat), .int .i64 (C : Nat), .slice a (R * C) cap] 24) _ rfl
  have hsz : w.heap.size < (w.alloc (.cells #[.int .i64 (R : Nat), .int .i64 (C : Nat), .slice a (R * C) cap] 24)).heap.size := by show _ < (w.heap.push _).size; rw [Array.size_push]; omega
  have hsh := Lib.hid hs
  have hbh := Lib.hid hb
  have hneh := Lib.hid hne
  have krt := Lib.hid (fun y => right_nat R C hR hC ▸ m_right R C a (R * C) cap y)
  obtain ⟨N, hNe⟩ : ∃ N, R * C = N := ⟨_, rfl⟩
  rw [hNe] at krt h0 hB hsz ⊢
  clear hs hb hne hNe
  have t2 := bne_cast_f C
  obtain ⟨n, hn⟩ : ∃ n, L 0 = n := ⟨_, rfl⟩
  rw [hn] at hbh hneh
  clear hn
  go_enter Try.func33, Try.ntmps33
  go_upto_region 1 with (fail)
  generalize World.alloc w _ = W at *
  have h0h := Lib.hid (blk_of h0)
  have hBh := Lib.hid hB
  have b0 := h0h.out
  clear h0 hB
  go_wp2_with fail
  refine (krt.out W).mono ?_
  rintro e w2 ⟨rfl, hb2⟩
  have b2 := (blk_below hb2 hsz).trans h0h.out
  have c1 : w2.cell? ⟨w.heap.size, 1, none⟩ = some (.int .i64 (C : Nat)) := (cell_of_block (blk_heap b2)).trans rfl
  have hB2 := Lib.hid (hBh.out.trans (hb2.mono (Nat.le_of_lt hsz)))
  have hs2 := Lib.hid (hsh.out.below hB2.out)
  clear hb2 b0
  go_upto_region 5 with (fail)
  clear t2 c1
  go_loop [8, 27] (fun v8 v27 => ∃ i : Nat, i ≤ q ∧ v27 = .int .i64 (i : Nat) ∧ v8 = .int .i64 (nK n i : Nat)) (fun _ v27 => C - (intOf v27).toNat)
  case atStart => exact ⟨0, Nat.zero_le _, rfl, by rw [nK_zero]⟩
  case round =>
    obtain ⟨i, hi, rfl, rfl⟩ := hrel
    have i1 : (i : Int) < (C : Int) := by omega
    obtain ⟨bb, oo, xx, kk, hse, hcc⟩ := hs2.out.get (show i < C by omega)
    subst hse
    have hnx := Lib.hid (nK_succ n i)
    by_cases hiq : i < q
    · rw [hbh.out i hiq] at hcc
      by_cases hi0 : 0 < i
      · have e0 : decide ((0 : Int) < (i : Int)) = true := decide_eq_true (by omega)
        have e1 : decide (0 < i) = true := decide_eq_true hi0
        rw [nK_pos n i hi0]
        have e2 := bne_cast_f n
        go_wp2_with fail
        go_round
        case rel => exact ⟨i + 1, by omega, by go_num, by rw [hnx.out]⟩
        case measure => simp [intOf]; omega
      · have e0 : decide ((0 : Int) < (i : Int)) = false := decide_eq_false (by omega)
        have e1 : decide (0 < i) = false := decide_eq_false hi0
        go_wp2_with fail
        go_round
        case rel => exact ⟨i + 1, by omega, by go_num, by rw [hnx.out]⟩
        case measure => simp [intOf]; omega
    · obtain rfl : i = q := by omega
      have e0 : decide ((0 : Int) < (i : Int)) = true := decide_eq_true (by omega)
      have e1 : decide (0 < i) = true := decide_eq_true hq0
      rw [nK_pos n i hq0]
      have hne := hneh.out
      obtain ⟨y, hy⟩ : ∃ y, L i = y := ⟨_, rfl⟩
      rw [hy] at hne hcc
      have e2 : (((y : Nat) : Int) != (n : Int)) = true := by simp [bne]; omega
      have e3 : (y != n) = true := by simp [bne]; omega
      clear hy hne
      go_wp2_with fail
      go_ret2
      exact ⟨rfl, hB2.out⟩
end Go.Proofs.Ytkcalgolanpjaaa

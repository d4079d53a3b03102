/- The contracts of the document's Score and Need, of package stats' Need and Better, and of the law's Same. Conditions: the state's numbers are as small as marks and trips leave them. -/
import Derived.Test.YtpeloeiiaikadaaStats3
namespace Go.Proofs.Ytpeloeiiaikadaa
open Go.RowKit
attribute [local irreducible] twZ tick8 clampZ floorZ satZ
/-- the least number of K that come to a -/
def cdZ (a K : Int) : Int := (a + K - 1) / K
theorem cdZ_neg (a K : Int) (hK : 0 < K) : -((-a) / K) = cdZ a K := by
  unfold cdZ
  have h := Int.mul_ediv_add_emod (-a) K
  have h1 := Int.emod_nonneg (-a) (show K ≠ 0 by omega)
  have h2 := Int.emod_lt_of_pos (-a) hK
  generalize (-a) / K = q at *
  generalize (-a) % K = r at *
  have e : a + K - 1 = (K - 1 - r) + K * (-q) := by rw [Int.mul_neg]; omega
  rw [e, Int.add_mul_ediv_left _ _ (by omega), Int.ediv_eq_zero_of_lt (by omega) (by omega)]
  omega
theorem cdZ_ge (a K : Int) (hK : 0 < K) : a ≤ cdZ a K * K := by
  unfold cdZ
  have h := Int.mul_ediv_add_emod (a + K - 1) K
  have h2 := Int.emod_lt_of_pos (a + K - 1) hK
  rw [Int.mul_comm]; omega
theorem cdZ_lt (a K : Int) (hK : 0 < K) : (cdZ a K - 1) * K < a := by
  unfold cdZ
  have h := Int.mul_ediv_add_emod (a + K - 1) K
  have h1 := Int.emod_nonneg (a + K - 1) (show K ≠ 0 by omega)
  rw [Int.sub_mul, Int.mul_comm]; omega
theorem cdZ_bd (a K : Int) (hK : 0 < K) (ha : 0 ≤ a) : 0 ≤ cdZ a K ∧ cdZ a K ≤ a := by
  unfold cdZ
  refine ⟨Int.ediv_nonneg (by omega) (by omega), ?_⟩
  by_cases h : a = 0
  · subst h
    rw [Int.ediv_eq_zero_of_lt (by omega) (by omega)]; omega
  · refine Int.ediv_le_of_le_mul hK ?_
    have : (a - 1) * 1 ≤ (a - 1) * K := Int.mul_le_mul_of_nonneg_left (by omega) (by omega)
    rw [Int.sub_mul a 1 K] at this
    omega
/-- below it too few come -/
theorem cdZ_few (a K n : Int) (hK : 0 < K) : n * K < a ↔ n < cdZ a K := by
  constructor
  · intro h
    have h2 := cdZ_ge a K hK
    exact Int.lt_of_mul_lt_mul_right (Int.lt_of_lt_of_le h h2) (by omega)
  · intro h
    have h1 := cdZ_lt a K hK
    have : n * K ≤ (cdZ a K - 1) * K := Int.mul_le_mul_of_nonneg_right (by omega) (by omega)
    omega
def ndZ (loss count limit : Int) : Int := clampZ (cdZ (max count 0 * 65536) (65536 - loss)) 0 (max limit 0)
attribute [local irreducible] cdZ
theorem w_mulq (q : Int) (w : World) (h0 : 0 ≤ q) (h1 : q ≤ 1000000) :
    Calls Try.prog 19 #[.int .i64 q, .int .i64 65536] w fun e w' => e = .returned (.int .i64 (q * 65536)) ∧ w = w' :=
  (w_mul q 65536 w ⟨by omega, by omega⟩ ⟨by omega, by omega⟩).mono fun _ _ ⟨h, h'⟩ => ⟨by rw [h, satZ_in _ (by omega) (by omega)], h'⟩
theorem w_floorq (q K : Int) (w : World) (h0 : 0 ≤ q) (h1 : q ≤ 100000000000) (hK : 0 < K) (hK2 : K ≤ 65536) :
    Calls Try.prog 18 #[.int .i64 (-q), .int .i64 K] w fun e w' => e = .returned (.int .i64 (-(cdZ q K))) ∧ w = w' :=
  (w_floor (-q) K w ⟨by omega, by omega⟩ ⟨by omega, by omega⟩).mono fun _ _ ⟨h, h'⟩ => ⟨by rw [h, floorZ_pos _ _ hK (by omega) (by omega), ← cdZ_neg q K hK, Int.neg_neg], h'⟩
theorem w_floor0 (K : Int) (w : World) (hK : 0 < K) (hK2 : K ≤ 65536) :
    Calls Try.prog 18 #[.int .i64 0, .int .i64 K] w fun e w' => e = .returned (.int .i64 0) ∧ w = w' :=
  (w_floor 0 K w ⟨by omega, by omega⟩ ⟨by omega, by omega⟩).mono fun _ _ ⟨h, h'⟩ => ⟨by rw [h, floorZ_pos _ _ hK (by omega) (by omega), Int.zero_ediv], h'⟩
theorem cdZ_0 (K : Int) (hK : 0 < K) : cdZ (0 * 65536) K = 0 := by unfold cdZ; exact Int.ediv_eq_zero_of_lt (by omega) (by omega)
theorem clamp_lim (x m limit : Int) (h : m = if limit < 0 then 0 else limit) : clampZ x 0 m = clampZ x 0 (max limit 0) := by
  have : m = max limit 0 := by subst h; split <;> omega
  rw [this]
set_option maxHeartbeats 1000000 in
theorem s_need_q (loss rtt var marks trips count limit q : Int) (w : World) (l0 : 0 ≤ loss) (l1 : loss ≤ 65535) (hq : q = if count < 0 then 0 else count) (h1 : count ≤ 1000000) (h2 : limit ≤ 9223372036854775807) :
    Calls Try.prog 16 #[.agg #[.int .i64 loss, .int .i64 rtt, .int .i64 var, .int .i64 marks, .int .i64 trips], .int .i64 count, .int .i64 limit] w (ValPost w (.int .i64 (clampZ (cdZ (q * 65536) (65536 - loss)) 0 (max limit 0)))) := by
  have hB : ∀ A, Below w.heap.size w (w.alloc A) := fun A => (Below.refl _ _).alloc (Nat.le_refl _) _
  have hBh := Lib.hid hB
  have hq0 : 0 ≤ q := by subst hq; split <;> omega
  have hq1 : q ≤ 1000000 := by subst hq; split <;> omega
  have hcb := cdZ_bd (q * 65536) (65536 - loss) (by omega) (by omega)
  obtain ⟨c0, c1⟩ := hcb
  have c2 : cdZ (q * 65536) (65536 - loss) ≤ 100000000000 := by omega
  have hcl := Lib.hid (fun m h => clamp_lim (cdZ (q * 65536) (65536 - loss)) m limit h)
  clear hB c1
  by_cases hc : count < 0
  · rw [if_pos hc] at hq
    subst hq
    have h00 := cdZ_0 (65536 - loss) (by omega)
    rw [h00] at hcl c0 c2 ⊢
    clear h00
    go_enter Try.func16, Try.ntmps16
    go_wp2_with fail
    refine (w_clamp_in loss 0 65535 _ (by omega) (by omega)).mono ?_
    rintro e w' ⟨rfl, rfl⟩
    go_wp2_with fail
    refine (w_mulq 0 _ (by omega) (by omega)).mono ?_
    rintro e w' ⟨rfl, rfl⟩
    go_wp2_with fail
    refine (w_floor0 (65536 - loss) _ (by omega) (by omega)).mono ?_
    rintro e w' ⟨rfl, rfl⟩
    go_wp2_with fail
    all_goals
      refine (w_clamp _ 0 _ _).mono ?_
      rintro e w' ⟨rfl, rfl⟩
      go_wp2_with fail
      go_ret
      exact ⟨ret_int (hcl.out _ (by split <;> (first | rfl | omega))), hBh.out _⟩
  · rw [if_neg hc] at hq
    subst hq
    go_enter Try.func16, Try.ntmps16
    go_wp2_with fail
    refine (w_clamp_in loss 0 65535 _ (by omega) (by omega)).mono ?_
    rintro e w' ⟨rfl, rfl⟩
    go_wp2_with fail
    refine (w_mulq q _ (by omega) (by omega)).mono ?_
    rintro e w' ⟨rfl, rfl⟩
    go_wp2_with fail
    refine (w_floorq (q * 65536) (65536 - loss) _ (by omega) (by omega) (by omega) (by omega)).mono ?_
    rintro e w' ⟨rfl, rfl⟩
    go_wp2_with fail
    all_goals
      refine (w_clamp _ 0 _ _).mono ?_
      rintro e w' ⟨rfl, rfl⟩
      go_wp2_with fail
      go_ret
      exact ⟨ret_int (hcl.out _ (by split <;> (first | rfl | omega))), hBh.out _⟩
theorem s_need (s : StS) (c count limit : Int) (w : World) (ok : StOk s c) (h1 : count ≤ 1000000) (h2 : limit ≤ 9223372036854775807) :
    Calls Try.prog 16 #[.agg (stA s), .int .i64 count, .int .i64 limit] w (ValPost w (.int .i64 (ndZ s.loss count limit))) := by
  have hq : max count 0 = if count < 0 then 0 else count := by split <;> omega
  unfold ndZ
  exact s_need_q s.loss s.rtt s.var s.marks s.trips count limit (max count 0) w ok.l0 ok.l1 hq h1 h2
end Go.Proofs.Ytpeloeiiaikadaa

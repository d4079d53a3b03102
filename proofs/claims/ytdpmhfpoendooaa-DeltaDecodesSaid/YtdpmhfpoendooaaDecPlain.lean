/- Reading changes one behind the other from bits, plain: where each begins, what it says, whether it is in its one form; that the one form is what is written. No program is in sight. -/
import Derived.Test.YtdpmhfpoendooaaDeltaTake
namespace Go.Proofs.Ytdpmhfpoendooaa
/-- how many bits the change at q takes, and what it says -/
def ckN (β : Nat → Nat) (q : Nat) : Nat := if β q = 0 then 1 else if β (q + 1) = 0 then 8 else 18
def ckV (β : Nat → Nat) (q : Nat) : Nat := if β q = 0 then 0 else if β (q + 1) = 0 then nuF β (q + 2) 6 else nuF β (q + 2) 16
/-- where the change k begins -/
def qF (β : Nat → Nat) (q0 : Nat) : Nat → Nat
  | 0 => q0
  | k + 1 => qF β q0 k + ckN β (qF β q0 k)
/-- the input ahead of the change k -/
def lsF (β : Nat → Nat) (q0 : Nat) : Nat → Nat
  | 0 => 0
  | k + 1 => lsF β q0 k ^^^ ckV β (qF β q0 k)
/-- the input k -/
def ouF (β : Nat → Nat) (q0 k : Nat) : Nat := lsF β q0 (k + 1)
theorem qF_zero (β : Nat → Nat) (q0 : Nat) : qF β q0 0 = q0 := by rw [qF]
theorem qF_next (β : Nat → Nat) (q0 k : Nat) : qF β q0 (k + 1) = qF β q0 k + ckN β (qF β q0 k) := by rw [qF]
theorem lsF_zero (β : Nat → Nat) (q0 : Nat) : lsF β q0 0 = 0 := by rw [lsF]
theorem lsF_next (β : Nat → Nat) (q0 k : Nat) : lsF β q0 (k + 1) = lsF β q0 k ^^^ ckV β (qF β q0 k) := by rw [lsF]
theorem ck_pos (β : Nat → Nat) (q : Nat) : 1 ≤ ckN β q ∧ ckN β q ≤ 18 := by unfold ckN; split; omega; split <;> omega
theorem q_mono (β : Nat → Nat) (q0 : Nat) {i k : Nat} (h : i ≤ k) : qF β q0 i + (k - i) ≤ qF β q0 k := by
  induction k with
  | zero => obtain rfl : i = 0 := by omega
            omega
  | succ k ih =>
    by_cases e : i = k + 1
    · subst e; omega
    · have := ih (by omega)
      have := ck_pos β (qF β q0 k)
      rw [qF_next]; omega
theorem nu_lt16 (β : Nat → Nat) (h : Bit β) (a k : Nat) (hk : k ≤ 16) : nuF β a k < 65536 :=
  Nat.lt_of_lt_of_le (nu_lt β h a k) (Nat.le_trans (Nat.pow_le_pow_right (by decide) hk) (by decide))
theorem ck_lt (β : Nat → Nat) (h : Bit β) (q : Nat) : ckV β q < 65536 := by
  unfold ckV
  split
  · decide
  · split
    · exact nu_lt16 β h _ _ (by decide)
    · exact nu_lt16 β h _ _ (by decide)
theorem ls_lt (β : Nat → Nat) (h : Bit β) (q0 k : Nat) : lsF β q0 k < 65536 := by
  induction k with
  | zero => rw [lsF]; decide
  | succ k ih => rw [lsF]; exact Nat.xor_lt_two_pow (n := 16) ih (ck_lt β h _)
theorem ou_dl (β : Nat → Nat) (q0 k : Nat) : dlF (ouF β q0) k = ckV β (qF β q0 k) := by
  unfold dlF
  have e : (if k = 0 then 0 else ouF β q0 (k - 1)) = lsF β q0 k := by
    by_cases h : k = 0
    · subst h; rw [if_pos rfl, lsF]
    · rw [if_neg h]; unfold ouF; rw [show k - 1 + 1 = k by omega]
  rw [e]
  unfold ouF
  rw [lsF_next, Nat.xor_comm (lsF β q0 k), Nat.xor_assoc, Nat.xor_self, Nat.xor_zero]
/-- the bits of the number of bits -/
theorem nu_bit (β : Nat → Nat) (h : Bit β) (a k j : Nat) (hj : j < k) : bitF (nuF β a k) (k - 1 - j) = β (a + j) := by
  induction k with
  | zero => omega
  | succ k ih =>
    rw [nu_next]
    have hb := h (a + k)
    by_cases e : j = k
    · subst e
      rw [show j + 1 - 1 - j = 0 by omega]
      unfold bitF
      omega
    · have e2 : k + 1 - 1 - j = (k - 1 - j) + 1 := by omega
      rw [← ih (by omega), e2]
      unfold bitF
      rw [Nat.pow_succ, Nat.mul_comm (2 ^ _) 2, ← Nat.div_div_eq_div_mul]
      congr 2
      omega
/-- the number of a number's bits -/
theorem nu_bs (v N : Nat) (a : Nat) (β : Nat → Nat) (hβ : ∀ j, j < N → β (a + j) = bsF v N j) (k : Nat) (hk : k ≤ N) : nuF β a k = v / 2 ^ (N - k) % 2 ^ k := by
  induction k with
  | zero => rw [nuF, Nat.pow_zero, Nat.mod_one]
  | succ k ih =>
    rw [nu_next, ih (by omega), hβ k (by omega)]
    unfold bsF bitF
    have e : N - k = (N - (k + 1)) + 1 := by omega
    rw [e, show N - 1 - k = N - (k + 1) by omega, Nat.pow_succ, ← Nat.div_div_eq_div_mul, Nat.pow_succ, Nat.mul_comm (2 ^ k) 2]
    generalize v / 2 ^ (N - (k + 1)) = X
    rw [Nat.mod_mul (x := X) (a := 2) (b := 2 ^ k)]
    omega
theorem nu_bs_all (v N : Nat) (a : Nat) (β : Nat → Nat) (hv : v < 2 ^ N) (hβ : ∀ j, j < N → β (a + j) = bsF v N j) : nuF β a N = v := by
  rw [nu_bs v N a β hβ N (Nat.le_refl _), Nat.sub_self, Nat.pow_zero, Nat.div_one, Nat.mod_eq_of_lt hv]
/-- a change in its one form: its bits are what is read -/
theorem ck_bits (β : Nat → Nat) (h : Bit β) (q : Nat) (hc : chN (ckV β q) = ckN β q) (j : Nat) (hj : j < ckN β q) : chF (ckV β q) j = β (q + j) := by
  have h0 := h q
  have h1 := h (q + 1)
  unfold ckN at hc hj
  unfold ckV at hc ⊢
  by_cases e0 : β q = 0
  · rw [if_pos e0] at hj ⊢
    obtain rfl : j = 0 := by omega
    unfold chF
    rw [if_pos rfl, Nat.add_zero, e0]
  · rw [if_neg e0] at hc hj ⊢
    rw [if_neg e0] at hc
    have b0 : β q = 1 := by omega
    by_cases e1 : β (q + 1) = 0
    · rw [if_pos e1] at hc hj ⊢
      rw [if_pos e1] at hc
      have hv : nuF β (q + 2) 6 ≠ 0 ∧ nuF β (q + 2) 6 < 64 := by
        unfold chN at hc
        split at hc
        · omega
        · rename_i hx
          split at hc
          · exact ⟨hx, by assumption⟩
          · omega
      unfold chF
      rw [if_neg hv.1, if_pos hv.2]
      unfold ctF
      rcases (show j = 0 ∨ j = 1 ∨ 2 ≤ j by omega) with rfl | rfl | h2
      · rw [if_pos (by omega)]; exact b0.symm
      · rw [if_pos (by omega)]; exact e1.symm
      · rw [if_neg (by omega), if_pos (by omega)]
        unfold bsF
        rw [nu_bit β h (q + 2) 6 (j - 2) (by omega)]
        congr 1; omega
    · rw [if_neg e1] at hc hj ⊢
      rw [if_neg e1] at hc
      have b1 : β (q + 1) = 1 := by omega
      have hv : ¬ nuF β (q + 2) 16 < 64 := by
        intro hlt
        unfold chN at hc
        rw [if_pos hlt] at hc
        split at hc <;> omega
      unfold chF
      rw [if_neg (by omega), if_neg hv]
      unfold ctF
      rcases (show j = 0 ∨ j = 1 ∨ 2 ≤ j by omega) with rfl | rfl | h2
      · rw [if_pos (by omega)]; exact b0.symm
      · rw [if_pos (by omega)]; exact b1.symm
      · rw [if_neg (by omega), if_pos (by omega)]
        unfold bsF
        rw [nu_bit β h (q + 2) 16 (j - 2) (by omega)]
        congr 1; omega
/-- a change that is not: one of its bits is another one -/
theorem ck_other (β : Nat → Nat) (h : Bit β) (q : Nat) (hc : chN (ckV β q) ≠ ckN β q) : ∃ j, j < ckN β q ∧ j < chN (ckV β q) ∧ chF (ckV β q) j ≠ β (q + j) := by
  have h0 := h q
  have h1 := h (q + 1)
  unfold ckN at hc ⊢
  unfold ckV at hc ⊢
  by_cases e0 : β q = 0
  · rw [if_pos e0, if_pos e0] at hc
    exact absurd chN_0 hc
  · rw [if_neg e0, if_neg e0] at hc
    rw [if_neg e0, if_neg e0]
    have b0 : β q = 1 := by omega
    by_cases e1 : β (q + 1) = 0
    · rw [if_pos e1, if_pos e1] at hc
      rw [if_pos e1, if_pos e1]
      have hlt : nuF β (q + 2) 6 < 64 := nu_lt β h (q + 2) 6
      have hv : nuF β (q + 2) 6 = 0 := by
        unfold chN at hc
        split at hc
        · assumption
        · first
            | omega
            | (rw [if_pos hlt] at hc; omega)
      rw [hv]
      refine ⟨0, by omega, by decide, ?_⟩
      show (0 : Nat) ≠ β (q + 0)
      rw [Nat.add_zero]; omega
    · rw [if_neg e1, if_neg e1] at hc
      rw [if_neg e1, if_neg e1]
      have b1 : β (q + 1) = 1 := by omega
      have hv : nuF β (q + 2) 16 < 64 := by
        unfold chN at hc
        split at hc
        · omega
        · split at hc
          · assumption
          · omega
      by_cases hz : nuF β (q + 2) 16 = 0
      · rw [hz]
        refine ⟨0, by omega, by decide, ?_⟩
        show (0 : Nat) ≠ β (q + 0)
        rw [Nat.add_zero]; omega
      · refine ⟨1, by omega, by rw [chN_6 _ hz hv]; decide, ?_⟩
        have : chF (nuF β (q + 2) 16) 1 = 0 := by
          unfold chF
          rw [if_neg hz, if_pos hv]
          rfl
        omega
/-- all are in their one form: what is written anew is what was read -/
theorem en_read (β : Nat → Nat) (h : Bit β) (n q0 : Nat) (hq0 : q0 = gmN (n + 1)) (hg : ∀ j, j < q0 → gmF (n + 1) j = β j) (k : Nat) (hc : ∀ i, i < k → chN (ckV β (qF β q0 i)) = ckN β (qF β q0 i)) :
    enN (ouF β q0) n k = qF β q0 k ∧ ∀ j, j < qF β q0 k → enB (ouF β q0) n k j = β j := by
  induction k with
  | zero =>
    refine ⟨by rw [enN_zero, qF_zero, hq0], fun j hj => ?_⟩
    rw [qF_zero] at hj
    rw [enB_zero]
    unfold ctF
    rw [if_neg (by omega), if_pos (by omega), Nat.sub_zero]
    exact hg j hj
  | succ k ih =>
    obtain ⟨h1, h2⟩ := ih (fun i hi => hc i (by omega))
    have hk := hc k (by omega)
    refine ⟨by rw [enN_next, h1, ou_dl, hk, qF_next], fun j hj => ?_⟩
    rw [qF_next] at hj
    rw [enB_next, h1, ou_dl, hk]
    unfold ctF
    by_cases e : j < qF β q0 k
    · rw [if_pos e]; exact h2 j e
    · rw [if_neg e, if_pos hj, ck_bits β h _ hk _ (by omega)]
      congr 1; omega
/-- later bits leave the earlier ones -/
theorem en_keep (L : Nat → Nat) (n : Nat) {i k : Nat} (hik : i ≤ k) : enN L n i ≤ enN L n k ∧ ∀ j, j < enN L n i → enB L n k j = enB L n i j := by
  induction k with
  | zero => obtain rfl : i = 0 := by omega
            exact ⟨Nat.le_refl _, fun _ _ => rfl⟩
  | succ k ih =>
    by_cases e : i = k + 1
    · subst e; exact ⟨Nat.le_refl _, fun _ _ => rfl⟩
    · obtain ⟨h1, h2⟩ := ih (by omega)
      refine ⟨by rw [enN_next]; omega, fun j hj => ?_⟩
      rw [enB_next]
      unfold ctF
      rw [if_pos (by omega)]
      exact h2 j hj
theorem exists_first (p : Nat → Prop) (n : Nat) (h : ¬ ∀ i, i < n → p i) : ∃ i, i < n ∧ ¬ p i ∧ ∀ j, j < i → p j := by
  induction n with
  | zero => exact absurd (fun i hi => absurd hi (by omega)) h
  | succ n ih =>
    by_cases h2 : ∀ i, i < n → p i
    · refine ⟨n, by omega, fun hp => h (fun i hi => ?_), h2⟩
      by_cases e : i = n
      · subst e; exact hp
      · exact h2 i (by omega)
    · obtain ⟨i, hi, h3, h4⟩ := ih h2
      exact ⟨i, by omega, h3, h4⟩
theorem ob_by (β : Nat → Nat) (h : Bit β) (j : Nat) : obF (byF β) j = β j := by
  unfold obF byF
  have hr : j % 8 = 0 ∨ j % 8 = 1 ∨ j % 8 = 2 ∨ j % 8 = 3 ∨ j % 8 = 4 ∨ j % 8 = 5 ∨ j % 8 = 6 ∨ j % 8 = 7 := by omega
  have hn := Nat.div_add_mod j 8
  have h0 := h (8 * (j / 8)); have h1 := h (8 * (j / 8) + 1); have h2 := h (8 * (j / 8) + 2); have h3 := h (8 * (j / 8) + 3); have h4 := h (8 * (j / 8) + 4); have h5 := h (8 * (j / 8) + 5); have h6 := h (8 * (j / 8) + 6); have h7 := h (8 * (j / 8) + 7)
  rcases hr with hr | hr | hr | hr | hr | hr | hr | hr
  all_goals
    rw [hr] at hn ⊢
    generalize j / 8 = q at *
    subst hn
    simp only [Nat.add_zero, Nat.sub_zero, Nat.sub_self, Nat.reduceSub, Nat.reducePow]
    omega
theorem by_ob (D : Nat → Nat) (j : Nat) (h : D j < 256) : byF (obF D) j = D j := by
  unfold byF obF
  simp only [show 8 * j / 8 = j by omega, show (8 * j + 1) / 8 = j by omega, show (8 * j + 2) / 8 = j by omega, show (8 * j + 3) / 8 = j by omega, show (8 * j + 4) / 8 = j by omega, show (8 * j + 5) / 8 = j by omega, show (8 * j + 6) / 8 = j by omega, show (8 * j + 7) / 8 = j by omega,
    show 8 * j % 8 = 0 by omega, show (8 * j + 1) % 8 = 1 by omega, show (8 * j + 2) % 8 = 2 by omega, show (8 * j + 3) % 8 = 3 by omega, show (8 * j + 4) % 8 = 4 by omega, show (8 * j + 5) % 8 = 5 by omega, show (8 * j + 6) % 8 = 6 by omega, show (8 * j + 7) % 8 = 7 by omega]
  simp only [Nat.sub_zero, Nat.sub_self, Nat.reduceSub, Nat.reducePow]
  omega
/-- bits from q on are noughts just if their number is 0 -/
theorem nu_nought (β : Nat → Nat) (q k : Nat) : nuF β q k = 0 ↔ ∀ j, j < k → β (q + j) = 0 := by
  induction k with
  | zero => exact ⟨fun _ j hj => absurd hj (by omega), fun _ => nu_zero _ _⟩
  | succ k ih =>
    rw [nu_next]
    constructor
    · intro h j hj
      by_cases e : j = k
      · subst e; omega
      · exact ih.1 (by omega) j (by omega)
    · intro h
      rw [ih.2 fun j hj => h j (by omega), h k (by omega)]
/-- are all n in their one form, within T bits? -/
def OkF (β : Nat → Nat) (T q0 n : Nat) : Prop := ∀ i, i < n → qF β q0 (i + 1) ≤ T ∧ chN (ckV β (qF β q0 i)) = ckN β (qF β q0 i)
/-- what is read is written so just if all are in their one form and the rest is noughts -/
theorem form_iff (D : Nat → Nat) (hD : ∀ j, D j < 256) (K n q0 : Nat) (hq0 : q0 = gmN (n + 1)) (hg : ∀ j, j < q0 → gmF (n + 1) j = obF D j) (hT : qF (obF D) q0 n ≤ 8 * K) :
    ((enN (ouF (obF D) q0) n n + 7) / 8 = K ∧ ∀ i, i < K → byF (enB (ouF (obF D) q0) n n) i = D i) ↔ (OkF (obF D) (8 * K) q0 n ∧ rsB D K (qF (obF D) q0 n) = true) := by
  have hbit : Bit (obF D) := fun j => ob_bit D j
  have hebit := en_bit (ouF (obF D) q0) n n
  have hezb := en_zb (ouF (obF D) q0) n n
  constructor
  · rintro ⟨h1, h2⟩
    have hsame : ∀ j, j < 8 * K → enB (ouF (obF D) q0) n n j = obF D j := fun j hj => by
      have e := h2 (j / 8) (by omega)
      rw [← ob_by _ hebit j]
      exact congrArg (fun x => x / 2 ^ (7 - j % 8) % 2) e
    have hok : ∀ i, i < n → chN (ckV (obF D) (qF (obF D) q0 i)) = ckN (obF D) (qF (obF D) q0 i) := by
      by_cases hall : ∀ i, i < n → chN (ckV (obF D) (qF (obF D) q0 i)) = ckN (obF D) (qF (obF D) q0 i)
      · exact hall
      · exfalso
        obtain ⟨i, hi, h3, h4⟩ := exists_first _ n hall
        obtain ⟨e1, e2⟩ := en_read (obF D) hbit n q0 hq0 hg i h4
        obtain ⟨j, hj1, hj2, hj3⟩ := ck_other (obF D) hbit (qF (obF D) q0 i) h3
        obtain ⟨e3, e4⟩ := en_keep (ouF (obF D) q0) n (show i + 1 ≤ n by omega)
        have hq := q_mono (obF D) q0 (show i + 1 ≤ n by omega)
        rw [qF_next] at hq
        have e5 := e4 (qF (obF D) q0 i + j) (by rw [enN_next, e1, ou_dl]; omega)
        rw [hsame _ (by omega), enB_next, e1, ou_dl] at e5
        unfold ctF at e5
        rw [if_neg (by omega), if_pos (by omega), Nat.add_sub_cancel_left] at e5
        exact hj3 e5.symm
    obtain ⟨e1, e2⟩ := en_read (obF D) hbit n q0 hq0 hg n hok
    refine ⟨fun i hi => ⟨?_, hok i hi⟩, ?_⟩
    · have := q_mono (obF D) q0 (show i + 1 ≤ n by omega); omega
    · unfold rsB
      rw [Bool.and_eq_true, decide_eq_true_eq, decide_eq_true_eq, nu_nought]
      rw [e1] at h1
      refine ⟨by omega, fun j hj => ?_⟩
      rw [← hsame _ (by omega)]
      exact hezb _ (by rw [e1]; omega)
  · rintro ⟨h1, h2⟩
    obtain ⟨e1, e2⟩ := en_read (obF D) hbit n q0 hq0 hg n (fun i hi => (h1 i hi).2)
    unfold rsB at h2
    rw [Bool.and_eq_true, decide_eq_true_eq, decide_eq_true_eq, nu_nought] at h2
    refine ⟨by rw [e1]; omega, fun i hi => ?_⟩
    rw [← by_ob D i (hD i)]
    have hb : ∀ j, j < 8 * K → enB (ouF (obF D) q0) n n j = obF D j := fun j hj => by
      by_cases e : j < qF (obF D) q0 n
      · exact e2 j e
      · rw [hezb _ (by rw [e1]; omega)]
        have := h2.2 (j - qF (obF D) q0 n) (by omega)
        rw [show qF (obF D) q0 n + (j - qF (obF D) q0 n) = j by omega] at this
        exact this.symm
    unfold byF
    rw [hb _ (by omega), hb _ (by omega), hb _ (by omega), hb _ (by omega), hb _ (by omega), hb _ (by omega), hb _ (by omega), hb _ (by omega)]
/-- a written change is read back -/
theorem ch_read (β : Nat → Nat) (q x : Nat) (hx : x < 65536) (h : ∀ j, j < chN x → β (q + j) = chF x j) : ckN β q = chN x ∧ ckV β q = x := by
  unfold ckN ckV
  by_cases h0 : x = 0
  · subst h0
    have e := h 0 (by decide)
    rw [Nat.add_zero] at e
    have e2 : β q = 0 := e
    rw [if_pos e2, if_pos e2]
    exact ⟨rfl, rfl⟩
  · by_cases h6 : x < 64
    · rw [chN_6 x h0 h6] at h ⊢
      have hf : ∀ j, chF x j = ctF (bsF 2 2) 2 (bsF x 6) 6 j := fun j => by unfold chF; rw [if_neg h0, if_pos h6]
      have e0 : β q = 1 := by have := h 0 (by omega); rw [hf, Nat.add_zero] at this; exact this
      have e1 : β (q + 1) = 0 := by have := h 1 (by omega); rw [hf] at this; exact this
      have n0 : ¬ β q = 0 := by omega
      rw [if_neg n0, if_neg n0, if_pos e1, if_pos e1]
      refine ⟨rfl, nu_bs_all x 6 (q + 2) β (by omega) fun j hj => ?_⟩
      have := h (j + 2) (by omega)
      rw [hf] at this
      unfold ctF at this
      rw [if_neg (by omega), if_pos (by omega), Nat.add_sub_cancel] at this
      rw [← this]; congr 1; omega
    · rw [chN_16 x h6] at h ⊢
      have hf : ∀ j, chF x j = ctF (bsF 3 2) 2 (bsF x 16) 16 j := fun j => by unfold chF; rw [if_neg h0, if_neg h6]
      have e0 : β q = 1 := by have := h 0 (by omega); rw [hf, Nat.add_zero] at this; exact this
      have e1 : β (q + 1) = 1 := by have := h 1 (by omega); rw [hf] at this; exact this
      have n0 : ¬ β q = 0 := by omega
      have n1 : ¬ β (q + 1) = 0 := by omega
      rw [if_neg n0, if_neg n0, if_neg n1, if_neg n1]
      refine ⟨rfl, nu_bs_all x 16 (q + 2) β (by omega) fun j hj => ?_⟩
      have := h (j + 2) (by omega)
      rw [hf] at this
      unfold ctF at this
      rw [if_neg (by omega), if_pos (by omega), Nat.add_sub_cancel] at this
      rw [← this]; congr 1; omega
/-- what is written is read back -/
theorem en_back (L : Nat → Nat) (hL : ∀ i, L i < 65536) (n : Nat) (k : Nat) (hk : k ≤ n) : qF (enB L n n) (gmN (n + 1)) k = enN L n k ∧ lsF (enB L n n) (gmN (n + 1)) k = lastF L k := by
  induction k with
  | zero => exact ⟨by rw [qF_zero, enN_zero], by rw [lsF_zero]; rfl⟩
  | succ k ih =>
    obtain ⟨h1, h2⟩ := ih (by omega)
    obtain ⟨e3, e4⟩ := en_keep L n (show k + 1 ≤ n by omega)
    have hr := ch_read (enB L n n) (enN L n k) (dlF L k) (dl_lt L hL k) fun j hj => by
      rw [e4 _ (by rw [enN_next]; omega), enB_next]
      unfold ctF
      rw [if_neg (by omega), if_pos (by omega), Nat.add_sub_cancel_left]
    refine ⟨by rw [qF_next, h1, hr.1, enN_next], ?_⟩
    rw [lsF_next, h1, h2, hr.2, last_next, ← dl_last, Nat.xor_comm (L k), ← Nat.xor_assoc, Nat.xor_self, Nat.zero_xor]
theorem en_form (L : Nat → Nat) (hL : ∀ i, L i < 65536) (n K : Nat) (hK : K = (enN L n n + 7) / 8) :
    OkF (obF (byF (enB L n n))) (8 * K) (gmN (n + 1)) n ∧ rsB (byF (enB L n n)) K (qF (obF (byF (enB L n n))) (gmN (n + 1)) n) = true ∧ ∀ i, i < n → ouF (obF (byF (enB L n n))) (gmN (n + 1)) i = L i := by
  have hob : obF (byF (enB L n n)) = enB L n n := funext fun j => ob_by _ (en_bit L n n) j
  rw [hob]
  refine ⟨fun i hi => ?_, ?_, fun i hi => ?_⟩
  · have h1 := (en_back L hL n i (by omega)).1
    have h2 := (en_back L hL n (i + 1) (by omega)).1
    have h3 := (en_keep L n (show i + 1 ≤ n by omega)).1
    refine ⟨by omega, ?_⟩
    obtain ⟨e3, e4⟩ := en_keep L n (show i + 1 ≤ n by omega)
    have hr := ch_read (enB L n n) (enN L n i) (dlF L i) (dl_lt L hL i) fun j hj => by
      rw [e4 _ (by rw [enN_next]; omega), enB_next]
      unfold ctF
      rw [if_neg (by omega), if_pos (by omega), Nat.add_sub_cancel_left]
    rw [h1, hr.1, hr.2]
  · have h1 := (en_back L hL n n (by omega)).1
    unfold rsB
    rw [hob, Bool.and_eq_true, decide_eq_true_eq, decide_eq_true_eq, nu_nought, h1]
    exact ⟨by omega, fun j _ => en_zb L n n _ (by omega)⟩
  · have h2 := (en_back L hL n (i + 1) (by omega)).2
    unfold ouF
    rw [h2, last_next]
/-- the gamma bits of what was read -/
theorem gm_read (β : Nat → Nat) (h : Bit β) (m : Nat) (hz : ∀ j, j < m → β j = 0) (h1 : β m = 1) (hm : m ≤ 63) : nuF β m (m + 1) ≠ 0 ∧ gmN (nuF β m (m + 1)) = 2 * m + 1 ∧ ∀ j, j < 2 * m + 1 → gmF (nuF β m (m + 1)) j = β j := by
  have hlt := nu_lt β h m (m + 1)
  have hge : 2 ^ m ≤ nuF β m (m + 1) := by rw [nu_head, h1]; omega
  have hp : 0 < 2 ^ m := Nat.pow_pos (by decide)
  have hnb : nbF (nuF β m (m + 1)) = m + 1 := by
    have a1 := nb_max _ _ hlt
    have a2 := nb_lt (nuF β m (m + 1))
    by_cases e : nbF (nuF β m (m + 1)) = m + 1
    · exact e
    · exfalso
      have := Nat.pow_le_pow_right (show 0 < 2 by decide) (show nbF (nuF β m (m + 1)) ≤ m by omega)
      omega
  refine ⟨by omega, by unfold gmN; rw [hnb]; omega, fun j hj => ?_⟩
  unfold gmF
  rw [hnb]
  by_cases e : j < m + 1 - 1
  · rw [if_pos e, hz j (by omega)]
  · rw [if_neg e, nu_bit β h m (m + 1) _ (by omega)]
    congr 1; omega
/-- written gamma bits, read back -/
theorem gm_back (L : Nat → Nat) (n : Nat) : ∃ m, gmN (n + 1) = 2 * m + 1 ∧ (n + 1 < 2 ^ 63 → m ≤ 63) ∧ (∀ j, j < m → enB L n n j = 0) ∧ enB L n n m = 1 ∧ nuF (enB L n n) m (m + 1) = n + 1 := by
  have h0 := nb_le (n + 1) (by omega)
  have h1 := nb_lt (n + 1)
  obtain ⟨e3, e4⟩ := en_keep L n (show 0 ≤ n by omega)
  rw [enN_zero] at e3 e4
  have hg : ∀ j, j < gmN (n + 1) → enB L n n j = gmF (n + 1) j := fun j hj => by
    rw [e4 j hj, enB_zero]
    unfold ctF
    rw [if_neg (by omega), if_pos (by omega), Nat.sub_zero]
  refine ⟨nbF (n + 1) - 1, by unfold gmN; omega, fun h => ?_, fun j hj => ?_, ?_, ?_⟩
  · have := nb_max (n + 1) 63 h; omega
  · rw [hg j (by unfold gmN; omega)]; unfold gmF; rw [if_pos hj]
  · rw [hg _ (by unfold gmN; omega)]
    unfold gmF
    rw [if_neg (by omega), Nat.sub_self, Nat.sub_zero]
    unfold bitF
    have e : (n + 1) / 2 ^ (nbF (n + 1) - 1) = 1 := by
      have h3 : nbF (n + 1) = (nbF (n + 1) - 1) + 1 := by omega
      rw [h3, Nat.pow_succ] at h1
      have h4 := h0.2
      generalize 2 ^ (nbF (n + 1) - 1) = P at *
      refine Nat.div_eq_of_lt_le ?_ ?_ <;> omega
    rw [e]
  · refine (congrArg (nuF _ _) (show nbF (n + 1) - 1 + 1 = nbF (n + 1) by omega)).trans (nu_bs_all (n + 1) (nbF (n + 1)) (nbF (n + 1) - 1) _ h1 fun j hj => ?_)
    rw [hg _ (by unfold gmN; omega)]
    unfold gmF bsF
    rw [if_neg (by omega)]
    congr 1; omega
end Go.Proofs.Ytdpmhfpoendooaa

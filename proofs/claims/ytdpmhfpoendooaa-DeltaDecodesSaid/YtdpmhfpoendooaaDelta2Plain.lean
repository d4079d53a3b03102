/- Numbers' bits, gamma bits and changes' bits as functions, and lists of bits one behind the other, plain. No program is in sight. -/
import Derived.Test.YtdpmhfpoendooaaDeltaPlain
namespace Go.Proofs.Ytdpmhfpoendooaa
/-- m further bits behind n -/
def ctF (β : Nat → Nat) (n : Nat) (γ : Nat → Nat) (m j : Nat) : Nat := if j < n then β j else if j < n + m then γ (j - n) else 0
theorem ct_zb (β γ : Nat → Nat) (n m : Nat) : Zb (n + m) (ctF β n γ m) := fun j hj => by unfold ctF; rw [if_neg (by omega), if_neg (by omega)]
theorem ct_bit {β γ : Nat → Nat} (n m : Nat) (h : Bit β) (h2 : ∀ j, j < m → γ j ≤ 1) : Bit (ctF β n γ m) := fun j => by
  unfold ctF
  split
  · exact h j
  · split
    · exact h2 _ (by omega)
    · omega
theorem ct_congr (β γ γ' : Nat → Nat) (n m : Nat) (h : ∀ j, j < m → γ j = γ' j) : ctF β n γ m = ctF β n γ' m := funext fun j => by
  unfold ctF
  split
  · rfl
  · split
    · exact h _ (by omega)
    · rfl
theorem ct_ct (β γ δ : Nat → Nat) (n m l : Nat) : ctF (ctF β n γ m) (n + m) δ l = ctF β n (ctF γ m δ l) (m + l) := funext fun j => by
  unfold ctF
  by_cases h1 : j < n
  · rw [if_pos (by omega), if_pos h1, if_pos h1]
  · by_cases h2 : j < n + m
    · rw [if_pos h2, if_neg h1, if_neg h1, if_pos h2, if_pos (by omega), if_pos (by omega)]
    · rw [if_neg h2, if_neg h1]
      by_cases h3 : j < n + m + l
      · rw [if_pos h3, if_pos (by omega), if_neg (by omega), if_pos (by omega)]
        congr 1; omega
      · rw [if_neg h3, if_neg (by omega)]
/-- a number's N bits -/
def bsF (v N j : Nat) : Nat := bitF v (N - 1 - j)
theorem ap_ct (β : Nat → Nat) (n N v : Nat) : apF β n N v N = ctF β n (bsF v N) N := funext fun j => by unfold apF ctF bsF; rfl
/-- how many bits a number has -/
def nbF (v : Nat) : Nat := if v = 0 then 0 else Nat.log2 v + 1
theorem nb_lt (v : Nat) : v < 2 ^ nbF v := by
  unfold nbF
  by_cases h : v = 0
  · rw [if_pos h, h]; decide
  · rw [if_neg h]; exact Nat.lt_log2_self
theorem nb_le (v : Nat) (h : v ≠ 0) : 0 < nbF v ∧ 2 ^ (nbF v - 1) ≤ v := by
  unfold nbF
  rw [if_neg h, Nat.add_sub_cancel]
  exact ⟨by omega, Nat.log2_self_le h⟩
theorem nb_max (v k : Nat) (h : v < 2 ^ k) : nbF v ≤ k := by
  by_cases h0 : v = 0
  · unfold nbF; rw [if_pos h0]; omega
  · obtain ⟨h1, h2⟩ := nb_le v h0
    by_cases e : nbF v ≤ k
    · exact e
    · exfalso
      have := Nat.pow_le_pow_right (show 0 < 2 by decide) (show k ≤ nbF v - 1 by omega)
      omega
theorem nb_uniq (v k : Nat) (h0 : v / 2 ^ k = 0) (h1 : ∀ j, j < k → v / 2 ^ j ≠ 0) : k = nbF v := by
  have hlt : v < 2 ^ k := by
    rcases Nat.div_eq_zero_iff.1 h0 with h | h
    · exact absurd h (Nat.pos_iff_ne_zero.1 (Nat.pow_pos (by decide)))
    · exact h
  have hle := nb_max v k hlt
  by_cases e : nbF v = k
  · exact e.symm
  · exfalso
    exact h1 (nbF v) (by omega) (Nat.div_eq_of_lt (nb_lt v))
/-- a number's gamma bits -/
def gmF (v j : Nat) : Nat := if j < nbF v - 1 then 0 else bitF v (nbF v - 1 - (j - (nbF v - 1)))
def gmN (v : Nat) : Nat := 2 * nbF v - 1
theorem gm_ct (β : Nat → Nat) (n v : Nat) (h : v ≠ 0) : ctF (ctF β n (bsF 0 (nbF v - 1)) (nbF v - 1)) (n + (nbF v - 1)) (bsF v (nbF v)) (nbF v) = ctF β n (gmF v) (gmN v) := by
  have h0 := (nb_le v h).1
  rw [ct_ct, show nbF v - 1 + nbF v = gmN v by unfold gmN; omega]
  refine ct_congr _ _ _ _ _ fun j hj => ?_
  unfold ctF gmF bsF gmN at *
  by_cases e : j < nbF v - 1
  · rw [if_pos e, if_pos e]; unfold bitF; simp
  · rw [if_neg e, if_neg e, if_pos (by omega)]
theorem gm_bit (v j : Nat) : gmF v j ≤ 1 := by unfold gmF; split; omega; exact bit_le _ _
/-- a change's bits -/
def chN (x : Nat) : Nat := if x = 0 then 1 else if x < 64 then 8 else 18
def chF (x j : Nat) : Nat := if x = 0 then 0 else if x < 64 then ctF (bsF 2 2) 2 (bsF x 6) 6 j else ctF (bsF 3 2) 2 (bsF x 16) 16 j
theorem bs_bit (v N j : Nat) : bsF v N j ≤ 1 := bit_le _ _
theorem ch_bit (x j : Nat) : chF x j ≤ 1 := by
  unfold chF
  split
  · omega
  · split
    · exact ct_bit 2 6 (fun j => bs_bit 2 2 j) (fun j _ => bs_bit x 6 j) j
    · exact ct_bit 2 16 (fun j => bs_bit 3 2 j) (fun j _ => bs_bit x 16 j) j
theorem ch_zero (β : Nat → Nat) (n : Nat) : ctF β n (bsF 0 1) 1 = ctF β n (chF 0) (chN 0) := ct_congr _ _ _ _ _ fun j _ => by unfold bsF chF bitF; simp
theorem ch_low (β : Nat → Nat) (n x : Nat) (h0 : x ≠ 0) (h : x < 64) : ctF (ctF β n (bsF 2 2) 2) (n + 2) (bsF x 6) 6 = ctF β n (chF x) (chN x) := by
  rw [ct_ct, show chN x = 2 + 6 by unfold chN; rw [if_neg h0, if_pos h]]
  exact ct_congr _ _ _ _ _ fun j _ => by unfold chF; rw [if_neg h0, if_pos h]
theorem ch_high (β : Nat → Nat) (n x : Nat) (h : ¬ x < 64) : ctF (ctF β n (bsF 3 2) 2) (n + 2) (bsF x 16) 16 = ctF β n (chF x) (chN x) := by
  rw [ct_ct, show chN x = 2 + 16 by unfold chN; rw [if_neg (by omega), if_neg h]]
  exact ct_congr _ _ _ _ _ fun j _ => by unfold chF; rw [if_neg (by omega), if_neg h]
/-- the change at i -/
def dlF (L : Nat → Nat) (i : Nat) : Nat := L i ^^^ (if i = 0 then 0 else L (i - 1))
def enN (L : Nat → Nat) (n : Nat) : Nat → Nat
  | 0 => gmN (n + 1)
  | k + 1 => enN L n k + chN (dlF L k)
def enB (L : Nat → Nat) (n : Nat) : Nat → Nat → Nat
  | 0 => ctF (fun _ => 0) 0 (gmF (n + 1)) (gmN (n + 1))
  | k + 1 => ctF (enB L n k) (enN L n k) (chF (dlF L k)) (chN (dlF L k))
theorem ch_le (x : Nat) : 1 ≤ chN x ∧ chN x ≤ 18 := by unfold chN; split; omega; split <;> omega
theorem en_le (L : Nat → Nat) (n k : Nat) (hn : n ≤ 4096) : enN L n k ≤ 25 + 18 * k := by
  induction k with
  | zero =>
    have := nb_max (n + 1) 13 (by omega)
    unfold enN gmN; omega
  | succ k ih => have := ch_le (dlF L k); simp only [enN]; omega
theorem en_zb (L : Nat → Nat) (n k : Nat) : Zb (enN L n k) (enB L n k) := by
  cases k with
  | zero => have := ct_zb (fun _ => 0) (gmF (n + 1)) 0 (gmN (n + 1)); rw [Nat.zero_add] at this; exact this
  | succ k => exact ct_zb _ _ _ _
theorem en_bit (L : Nat → Nat) (n k : Nat) : Bit (enB L n k) := by
  induction k with
  | zero => exact ct_bit 0 _ (fun _ => by omega) (fun j _ => gm_bit _ j)
  | succ k ih => exact ct_bit _ _ ih (fun j _ => ch_bit _ j)
end Go.Proofs.Ytdpmhfpoendooaa

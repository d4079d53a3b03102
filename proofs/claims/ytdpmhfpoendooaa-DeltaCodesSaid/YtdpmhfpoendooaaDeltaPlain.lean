/- Bits one behind the other, and the bytes that they make up, plain. No program is in sight. -/
namespace Go.Proofs.Ytdpmhfpoendooaa
/-- byte j of bits -/
def byF (β : Nat → Nat) (j : Nat) : Nat := β (8 * j) * 128 + β (8 * j + 1) * 64 + β (8 * j + 2) * 32 + β (8 * j + 3) * 16 + β (8 * j + 4) * 8 + β (8 * j + 5) * 4 + β (8 * j + 6) * 2 + β (8 * j + 7)
def Bit (β : Nat → Nat) : Prop := ∀ j, β j ≤ 1
def Zb (n : Nat) (β : Nat → Nat) : Prop := ∀ j, n ≤ j → β j = 0
def putF (β : Nat → Nat) (n x j : Nat) : Nat := if j = n then x else β j
theorem by_lt (β : Nat → Nat) (h : Bit β) (j : Nat) : byF β j < 256 := by
  have h0 := h (8 * j); have h1 := h (8 * j + 1); have h2 := h (8 * j + 2); have h3 := h (8 * j + 3); have h4 := h (8 * j + 4); have h5 := h (8 * j + 5); have h6 := h (8 * j + 6); have h7 := h (8 * j + 7)
  unfold byF; omega
theorem by_zero (β : Nat → Nat) (n j : Nat) (h : Zb n β) (hj : n ≤ 8 * j) : byF β j = 0 := by
  unfold byF
  rw [h _ (by omega), h _ (by omega), h _ (by omega), h _ (by omega), h _ (by omega), h _ (by omega), h _ (by omega), h _ (by omega)]
theorem put_bit {β : Nat → Nat} (h : Bit β) (n x : Nat) (hx : x ≤ 1) : Bit (putF β n x) := fun j => by unfold putF; split; exact hx; exact h j
theorem put_zb {β : Nat → Nat} (n x : Nat) (h : Zb n β) : Zb (n + 1) (putF β n x) := fun j hj => by unfold putF; rw [if_neg (by omega)]; exact h j (by omega)
theorem put_none (β : Nat → Nat) (n : Nat) (h : Zb n β) : putF β n 0 = β := funext fun j => by
  unfold putF
  by_cases e : j = n
  · rw [if_pos e, h j (by omega)]
  · rw [if_neg e]
theorem by_put (β : Nat → Nat) (n j : Nat) (h : Zb n β) : byF (putF β n 1) j = if j = n / 8 then byF β j + 2 ^ (7 - n % 8) else byF β j := by
  by_cases e : j = n / 8
  · rw [if_pos e]
    subst e
    have hr : n % 8 = 0 ∨ n % 8 = 1 ∨ n % 8 = 2 ∨ n % 8 = 3 ∨ n % 8 = 4 ∨ n % 8 = 5 ∨ n % 8 = 6 ∨ n % 8 = 7 := by omega
    have hz := h n (Nat.le_refl _)
    have hn := Nat.div_add_mod n 8
    generalize n / 8 = q at *
    unfold byF putF
    rcases hr with hr | hr | hr | hr | hr | hr | hr | hr
    all_goals
      rw [hr] at hn ⊢
      subst hn
      simp at hz ⊢
      omega
  · rw [if_neg e]
    unfold byF putF
    rw [if_neg (by omega), if_neg (by omega), if_neg (by omega), if_neg (by omega), if_neg (by omega), if_neg (by omega), if_neg (by omega), if_neg (by omega)]
theorem by_or (β : Nat → Nat) (n : Nat) (h : Zb n β) : byF β (n / 8) ||| 2 ^ (7 - n % 8) = byF β (n / 8) + 2 ^ (7 - n % 8) := by
  have key : ∃ a, byF β (n / 8) = 2 ^ (8 - n % 8) * a := by
    have hr : n % 8 = 0 ∨ n % 8 = 1 ∨ n % 8 = 2 ∨ n % 8 = 3 ∨ n % 8 = 4 ∨ n % 8 = 5 ∨ n % 8 = 6 ∨ n % 8 = 7 := by omega
    have hn := Nat.div_add_mod n 8
    generalize n / 8 = q at *
    have hz : ∀ t, n % 8 ≤ t → β (8 * q + t) = 0 := fun t ht => h _ (by omega)
    unfold byF
    rcases hr with hr | hr | hr | hr | hr | hr | hr | hr <;> rw [hr] at hz ⊢
    · exact ⟨0, by rw [hz 1 (by omega), hz 2 (by omega), hz 3 (by omega), hz 4 (by omega), hz 5 (by omega), hz 6 (by omega), hz 7 (by omega), show β (8 * q) = 0 from hz 0 (by omega)]⟩
    · exact ⟨β (8 * q), by rw [hz 1 (by omega), hz 2 (by omega), hz 3 (by omega), hz 4 (by omega), hz 5 (by omega), hz 6 (by omega), hz 7 (by omega)]; omega⟩
    · exact ⟨β (8 * q) * 2 + β (8 * q + 1), by rw [hz 2 (by omega), hz 3 (by omega), hz 4 (by omega), hz 5 (by omega), hz 6 (by omega), hz 7 (by omega)]; omega⟩
    · exact ⟨β (8 * q) * 4 + β (8 * q + 1) * 2 + β (8 * q + 2), by rw [hz 3 (by omega), hz 4 (by omega), hz 5 (by omega), hz 6 (by omega), hz 7 (by omega)]; omega⟩
    · exact ⟨β (8 * q) * 8 + β (8 * q + 1) * 4 + β (8 * q + 2) * 2 + β (8 * q + 3), by rw [hz 4 (by omega), hz 5 (by omega), hz 6 (by omega), hz 7 (by omega)]; omega⟩
    · exact ⟨β (8 * q) * 16 + β (8 * q + 1) * 8 + β (8 * q + 2) * 4 + β (8 * q + 3) * 2 + β (8 * q + 4), by rw [hz 5 (by omega), hz 6 (by omega), hz 7 (by omega)]; omega⟩
    · exact ⟨β (8 * q) * 32 + β (8 * q + 1) * 16 + β (8 * q + 2) * 8 + β (8 * q + 3) * 4 + β (8 * q + 4) * 2 + β (8 * q + 5), by rw [hz 6 (by omega), hz 7 (by omega)]; omega⟩
    · exact ⟨β (8 * q) * 64 + β (8 * q + 1) * 32 + β (8 * q + 2) * 16 + β (8 * q + 3) * 8 + β (8 * q + 4) * 4 + β (8 * q + 5) * 2 + β (8 * q + 6), by rw [hz 7 (by omega)]; omega⟩
  obtain ⟨a, ha⟩ := key
  rw [ha]
  exact (Nat.two_pow_add_eq_or_of_lt (Nat.pow_lt_pow_right (by decide) (by omega)) a).symm
/-- the bit of this number from below -/
def bitF (v s : Nat) : Nat := v / 2 ^ s % 2
theorem bit_le (v s : Nat) : bitF v s ≤ 1 := by unfold bitF; omega
/-- behind k of the N bits of a number are put -/
def apF (β : Nat → Nat) (n N v k j : Nat) : Nat := if j < n then β j else if j < n + k then bitF v (N - 1 - (j - n)) else 0
theorem ap_zero (β : Nat → Nat) (n N v : Nat) (h : Zb n β) : apF β n N v 0 = β := funext fun j => by
  unfold apF
  by_cases e : j < n
  · rw [if_pos e]
  · rw [if_neg e, if_neg (by omega), h j (by omega)]
theorem ap_next (β : Nat → Nat) (n N v k : Nat) : apF β n N v (k + 1) = putF (apF β n N v k) (n + k) (bitF v (N - 1 - k)) := funext fun j => by
  show apF β n N v (k + 1) j = if j = n + k then bitF v (N - 1 - k) else apF β n N v k j
  unfold apF
  by_cases e : j = n + k
  · subst e; rw [if_pos rfl, if_neg (by omega), if_pos (by omega), show n + k - n = k by omega]
  · rw [if_neg e]
    by_cases h : j < n
    · rw [if_pos h, if_pos h]
    · rw [if_neg h, if_neg h]
      by_cases h2 : j < n + k
      · rw [if_pos h2, if_pos (by omega)]
      · rw [if_neg h2, if_neg (by omega)]
theorem ap_zb (β : Nat → Nat) (n N v k : Nat) : Zb (n + k) (apF β n N v k) := fun j hj => by unfold apF; rw [if_neg (by omega), if_neg (by omega)]
theorem ap_bit (β : Nat → Nat) (n N v k : Nat) (h : Bit β) : Bit (apF β n N v k) := fun j => by unfold apF; split; exact h j; split; exact bit_le _ _; omega
end Go.Proofs.Ytdpmhfpoendooaa

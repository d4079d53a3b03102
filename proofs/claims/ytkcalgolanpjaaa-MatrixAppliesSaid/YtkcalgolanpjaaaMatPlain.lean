/- Elimination, plain: the first row that isn't 0 in a column, the steps of Invert and of both Ranks. No program is in sight. -/
import Derived.Test.YtkcalgolanpjaaaMat6
namespace Go.Proofs.Ytkcalgolanpjaaa
/-- the first row from k on, of f, that isn't 0 in the column; the one behind the last -/
def pvK (M : Nat → Nat → Nat) (col : Nat) : Nat → Nat → Nat
  | 0, k => k
  | f + 1, k => if M k col ≠ 0 then k else pvK M col f (k + 1)
def pvF (M : Nat → Nat → Nat) (col R fr : Nat) : Nat := pvK M col (R - fr) fr
theorem pvK_facts (M : Nat → Nat → Nat) (col : Nat) : ∀ f k, k ≤ pvK M col f k ∧ pvK M col f k ≤ k + f ∧ (pvK M col f k < k + f → M (pvK M col f k) col ≠ 0) ∧ ∀ j, k ≤ j → j < pvK M col f k → M j col = 0
  | 0, k => ⟨Nat.le_refl _, Nat.le_refl _, fun h => absurd h (by unfold pvK; omega), fun j h1 h2 => by unfold pvK at h2; omega⟩
  | f + 1, k => by
    obtain ⟨h1, h2, h3, h4⟩ := pvK_facts M col f (k + 1)
    unfold pvK
    by_cases h : M k col ≠ 0
    · rw [if_pos h]
      exact ⟨Nat.le_refl _, by omega, fun _ => h, fun j h1 h2 => by omega⟩
    · rw [if_neg h]
      refine ⟨by omega, by omega, fun hlt => h3 (by omega), fun j hj1 hj2 => ?_⟩
      by_cases e : j = k
      · subst e; exact Decidable.of_not_not h
      · exact h4 j (by omega) hj2
theorem pv_facts (M : Nat → Nat → Nat) (col R fr : Nat) (h : fr ≤ R) : fr ≤ pvF M col R fr ∧ pvF M col R fr ≤ R ∧ (pvF M col R fr < R → M (pvF M col R fr) col ≠ 0) ∧ ∀ j, fr ≤ j → j < pvF M col R fr → M j col = 0 := by
  obtain ⟨h1, h2, h3, h4⟩ := pvK_facts M col (R - fr) fr
  unfold pvF
  exact ⟨h1, by omega, fun hlt => h3 (by omega), h4⟩
theorem pvK_congr (M M' : Nat → Nat → Nat) (col : Nat) : ∀ f k, (∀ j, k ≤ j → j < k + f → M j col = M' j col) → pvK M col f k = pvK M' col f k
  | 0, _, _ => rfl
  | f + 1, k, h => by
    unfold pvK
    rw [h k (Nat.le_refl _) (by omega), pvK_congr M M' col f (k + 1) (fun j h1 h2 => h j (by omega) (by omega))]
theorem pv_congr (M M' : Nat → Nat → Nat) (col R fr : Nat) (h : ∀ j, fr ≤ j → j < R → M j col = M' j col) : pvF M col R fr = pvF M' col R fr := by
  unfold pvF
  exact pvK_congr M M' col _ _ (fun j h1 h2 => h j h1 (by omega))
/-- a column is made 0 but in row i, where it is 1; what is done is done to X -/
def clF (M X : Nat → Nat → Nat) (i col : Nat) : Nat → Nat → Nat := elF X (rinv (M i col)) (fun r => M r col) i
/-- Invert's matrix and the other one, ahead of step i -/
def ivS (F : Nat → Nat → Nat) (n : Nat) : Nat → (Nat → Nat → Nat) × (Nat → Nat → Nat)
  | 0 => (F, idF)
  | i + 1 => (clF (swF (ivS F n i).1 i (pvF (ivS F n i).1 i n i)) (swF (ivS F n i).1 i (pvF (ivS F n i).1 i n i)) i i, clF (swF (ivS F n i).1 i (pvF (ivS F n i).1 i n i)) (swF (ivS F n i).2 i (pvF (ivS F n i).1 i n i)) i i)
theorem iv_zero (F : Nat → Nat → Nat) (n : Nat) : ivS F n 0 = (F, idF) := by rw [ivS]
theorem iv_next1 (F : Nat → Nat → Nat) (n i : Nat) : (ivS F n (i + 1)).1 = clF (swF (ivS F n i).1 i (pvF (ivS F n i).1 i n i)) (swF (ivS F n i).1 i (pvF (ivS F n i).1 i n i)) i i := by rw [ivS]
theorem iv_next2 (F : Nat → Nat → Nat) (n i : Nat) : (ivS F n (i + 1)).2 = clF (swF (ivS F n i).1 i (pvF (ivS F n i).1 i n i)) (swF (ivS F n i).2 i (pvF (ivS F n i).1 i n i)) i i := by rw [ivS]
/-- program's Rank: how many pivots there are, and the matrix, ahead of a column -/
def gjS (F : Nat → Nat → Nat) (R : Nat) : Nat → Nat × (Nat → Nat → Nat)
  | 0 => (0, F)
  | c + 1 => if (gjS F R c).1 < R ∧ pvF (gjS F R c).2 c R (gjS F R c).1 < R then ((gjS F R c).1 + 1, clF (swF (gjS F R c).2 (gjS F R c).1 (pvF (gjS F R c).2 c R (gjS F R c).1)) (swF (gjS F R c).2 (gjS F R c).1 (pvF (gjS F R c).2 c R (gjS F R c).1)) (gjS F R c).1 c) else gjS F R c
theorem gj_zero (F : Nat → Nat → Nat) (R : Nat) : gjS F R 0 = (0, F) := by rw [gjS]
theorem gj_yes (F : Nat → Nat → Nat) (R c : Nat) (h1 : (gjS F R c).1 < R) (h2 : pvF (gjS F R c).2 c R (gjS F R c).1 < R) : gjS F R (c + 1) = ((gjS F R c).1 + 1, clF (swF (gjS F R c).2 (gjS F R c).1 (pvF (gjS F R c).2 c R (gjS F R c).1)) (swF (gjS F R c).2 (gjS F R c).1 (pvF (gjS F R c).2 c R (gjS F R c).1)) (gjS F R c).1 c) := by rw [gjS, if_pos ⟨h1, h2⟩]
theorem gj_no (F : Nat → Nat → Nat) (R c : Nat) (h : ¬ ((gjS F R c).1 < R ∧ pvF (gjS F R c).2 c R (gjS F R c).1 < R)) : gjS F R (c + 1) = gjS F R c := by rw [gjS, if_neg h]
theorem gj_full (F : Nat → Nat → Nat) (R c : Nat) (h : (gjS F R c).1 = R) : ∀ d, gjS F R (c + d) = gjS F R c
  | 0 => rfl
  | d + 1 => by
    have ih := gj_full F R c h d
    rw [← Nat.add_assoc, gj_no F R (c + d) (by rw [ih]; omega), ih]
theorem gj_le (F : Nat → Nat → Nat) (R c : Nat) : (gjS F R c).1 ≤ R ∧ (gjS F R c).1 ≤ c := by
  induction c with
  | zero => rw [gj_zero]; exact ⟨Nat.zero_le _, Nat.le_refl _⟩
  | succ c ih =>
    by_cases h : (gjS F R c).1 < R ∧ pvF (gjS F R c).2 c R (gjS F R c).1 < R
    · rw [gj_yes F R c h.1 h.2]; exact ⟨by show _ + 1 ≤ R; omega, by show _ + 1 ≤ _; omega⟩
    · rw [gj_no F R c h]; exact ⟨ih.1, by omega⟩
/-- a row is taken from those behind it -/
def woF (M : Nat → Nat → Nat) (i col r c : Nat) : Nat := if i < r then M r c ^^^ rmul (rmul (M r col) (rinv (M i col))) (M i c) else M r c
/-- the document's Rank -/
def rfS (F : Nat → Nat → Nat) (R : Nat) : Nat → Nat × (Nat → Nat → Nat)
  | 0 => (0, F)
  | c + 1 => if (rfS F R c).1 < R ∧ pvF (rfS F R c).2 c R (rfS F R c).1 < R then ((rfS F R c).1 + 1, woF (swF (rfS F R c).2 (rfS F R c).1 (pvF (rfS F R c).2 c R (rfS F R c).1)) (rfS F R c).1 c) else rfS F R c
theorem rf_zero (F : Nat → Nat → Nat) (R : Nat) : rfS F R 0 = (0, F) := by rw [rfS]
theorem rf_yes (F : Nat → Nat → Nat) (R c : Nat) (h1 : (rfS F R c).1 < R) (h2 : pvF (rfS F R c).2 c R (rfS F R c).1 < R) : rfS F R (c + 1) = ((rfS F R c).1 + 1, woF (swF (rfS F R c).2 (rfS F R c).1 (pvF (rfS F R c).2 c R (rfS F R c).1)) (rfS F R c).1 c) := by rw [rfS, if_pos ⟨h1, h2⟩]
theorem rf_no (F : Nat → Nat → Nat) (R c : Nat) (h : ¬ ((rfS F R c).1 < R ∧ pvF (rfS F R c).2 c R (rfS F R c).1 < R)) : rfS F R (c + 1) = rfS F R c := by rw [rfS, if_neg h]
theorem rf_full (F : Nat → Nat → Nat) (R c : Nat) (h : (rfS F R c).1 = R) : ∀ d, rfS F R (c + d) = rfS F R c
  | 0 => rfl
  | d + 1 => by
    have ih := rf_full F R c h d
    rw [← Nat.add_assoc, rf_no F R (c + d) (by rw [ih]; omega), ih]
theorem sw_bd {F : Nat → Nat → Nat} (h : Bd2 F) (i k : Nat) : Bd2 (swF F i k) := fun r c => by unfold swF; exact h _ _
theorem cl_bd {X : Nat → Nat → Nat} (M : Nat → Nat → Nat) (h : Bd2 X) (i col : Nat) : Bd2 (clF M X i col) := fun r c => by
  unfold clF elF
  split
  · exact rmul_lt _ _
  · exact xor_lt256 (h r c) (rmul_lt _ _)
theorem wo_bd {M : Nat → Nat → Nat} (h : Bd2 M) (i col : Nat) : Bd2 (woF M i col) := fun r c => by
  unfold woF
  split
  · exact xor_lt256 (h r c) (rmul_lt _ _)
  · exact h r c
theorem id_bd : Bd2 idF := fun r c => by unfold idF; split <;> omega
theorem iv_bd (F : Nat → Nat → Nat) (h : Bd2 F) (n i : Nat) : Bd2 (ivS F n i).1 ∧ Bd2 (ivS F n i).2 := by
  induction i with
  | zero => rw [iv_zero]; exact ⟨h, id_bd⟩
  | succ i ih => rw [iv_next1, iv_next2]; exact ⟨cl_bd _ (sw_bd ih.1 _ _) _ _, cl_bd _ (sw_bd ih.2 _ _) _ _⟩
theorem gj_bd (F : Nat → Nat → Nat) (h : Bd2 F) (R c : Nat) : Bd2 (gjS F R c).2 := by
  induction c with
  | zero => rw [gj_zero]; exact h
  | succ c ih =>
    by_cases hh : (gjS F R c).1 < R ∧ pvF (gjS F R c).2 c R (gjS F R c).1 < R
    · rw [gj_yes F R c hh.1 hh.2]; exact cl_bd _ (sw_bd ih _ _) _ _
    · rw [gj_no F R c hh]; exact ih
theorem rf_bd (F : Nat → Nat → Nat) (h : Bd2 F) (R c : Nat) : Bd2 (rfS F R c).2 := by
  induction c with
  | zero => rw [rf_zero]; exact h
  | succ c ih =>
    by_cases hh : (rfS F R c).1 < R ∧ pvF (rfS F R c).2 c R (rfS F R c).1 < R
    · rw [rf_yes F R c hh.1 hh.2]; exact wo_bd (sw_bd ih _ _) _ _
    · rw [rf_no F R c hh]; exact ih
/-- both Ranks' matrices are the same from the next row on -/
theorem rank_same (F : Nat → Nat → Nat) (h : Bd2 F) (R c : Nat) : (gjS F R c).1 = (rfS F R c).1 ∧ ∀ r, (gjS F R c).1 ≤ r → r < R → ∀ k, (gjS F R c).2 r k = (rfS F R c).2 r k := by
  induction c with
  | zero => rw [gj_zero, rf_zero]; exact ⟨rfl, fun _ _ _ _ => rfl⟩
  | succ c ih =>
    obtain ⟨h1, h2⟩ := ih
    have hb := gj_bd F h R c
    have hpv : pvF (gjS F R c).2 c R (gjS F R c).1 = pvF (rfS F R c).2 c R (rfS F R c).1 := by
      rw [← h1]
      exact pv_congr _ _ _ _ _ (fun j hj1 hj2 => h2 j hj1 hj2 c)
    by_cases hh : (gjS F R c).1 < R ∧ pvF (gjS F R c).2 c R (gjS F R c).1 < R
    · have hh2 := hh
      rw [hpv, h1] at hh2
      obtain ⟨p1, p2, p3, p4⟩ := pv_facts (gjS F R c).2 c R (gjS F R c).1 (by omega)
      have hpiv := p3 hh.2
      rw [gj_yes F R c hh.1 hh.2, rf_yes F R c hh2.1 hh2.2, ← hpv, ← h1]
      refine ⟨rfl, fun r hr1 hr2 k => ?_⟩
      dsimp only at hr1 ⊢
      generalize pvF (gjS F R c).2 c R (gjS F R c).1 = q at *
      generalize (gjS F R c).1 = n at *
      generalize (gjS F R c).2 = M at *
      generalize (rfS F R c).2 = M' at *
      have e1 : ∀ r, n ≤ r → r < R → ∀ k, swF M n q r k = swF M' n q r k := fun r h3 h4 k => by
        unfold swF
        refine h2 _ ?_ ?_ k
        · split
          · omega
          · split <;> omega
        · split
          · omega
          · split <;> omega
      unfold clF elF woF
      rw [if_neg (by omega), if_pos (by omega)]
      dsimp only
      rw [e1 r (by omega) hr2 k, e1 r (by omega) hr2 c, e1 n (by omega) (by omega) c, e1 n (by omega) (by omega) k]
      have hb' : ∀ r c, n ≤ r → r < R → swF M' n q r c < 256 := fun r c h3 h4 => by rw [← e1 r h3 h4]; exact sw_bd hb n q r c
      rw [rmul_assoc _ _ _ (hb' r c (by omega) hr2) (rinv_lt _) (hb' n k (Nat.le_refl _) (by omega))]
    · have hh2 : ¬ ((rfS F R c).1 < R ∧ pvF (rfS F R c).2 c R (rfS F R c).1 < R) := by rw [← hpv, ← h1]; exact hh
      rw [gj_no F R c hh, rf_no F R c hh2]
      exact ⟨h1, h2⟩
/-- Invert goes as Rank does, as long as each pivot is in its column -/
theorem iv_gj (F : Nat → Nat → Nat) (n i : Nat) (hi : i ≤ n) (h : ∀ j, j < i → pvF (ivS F n j).1 j n j < n) : gjS F n i = (i, (ivS F n i).1) := by
  induction i with
  | zero => rw [gj_zero, iv_zero]
  | succ i ih =>
    have e := ih (by omega) (fun j hj => h j (by omega))
    have hp := h i (by omega)
    have e1 : (gjS F n i).1 = i := by rw [e]
    have e2 : (gjS F n i).2 = (ivS F n i).1 := by rw [e]
    rw [gj_yes F n i (by rw [e1]; omega) (by rw [e1, e2]; exact hp), e1, e2, iv_next1]
/-- each further column adds at most one -/
theorem gj_more (F : Nat → Nat → Nat) (R c d : Nat) : (gjS F R (c + d)).1 ≤ (gjS F R c).1 + d := by
  induction d with
  | zero => exact Nat.le_refl _
  | succ d ih =>
    rw [← Nat.add_assoc]
    by_cases hh : (gjS F R (c + d)).1 < R ∧ pvF (gjS F R (c + d)).2 (c + d) R (gjS F R (c + d)).1 < R
    · rw [gj_yes F R (c + d) hh.1 hh.2]; show _ + 1 ≤ _; omega
    · rw [gj_no F R (c + d) hh]; omega
theorem rank_full (F : Nat → Nat → Nat) (n : Nat) (h : ∀ j, j < n → pvF (ivS F n j).1 j n j < n) : (gjS F n n).1 = n := by rw [iv_gj F n n (Nat.le_refl _) h]
theorem rank_less (F : Nat → Nat → Nat) (n i : Nat) (hi : i < n) (h : ∀ j, j < i → pvF (ivS F n j).1 j n j < n) (hno : ¬ pvF (ivS F n i).1 i n i < n) : (gjS F n n).1 < n := by
  have e := iv_gj F n i (by omega) h
  have e1 : (gjS F n i).1 = i := by rw [e]
  have e2 : (gjS F n i).2 = (ivS F n i).1 := by rw [e]
  have h1 := gj_no F n i (by rw [e1, e2]; exact fun h => hno h.2)
  have h2 := gj_more F n (i + 1) (n - (i + 1))
  rw [h1, e1, show i + 1 + (n - (i + 1)) = n by omega] at h2
  omega
theorem first_no (p : Nat → Prop) [DecidablePred p] (n : Nat) : (∀ j, j < n → p j) ∨ ∃ i, i < n ∧ ¬ p i ∧ ∀ j, j < i → p j := by
  induction n with
  | zero => exact .inl (fun j hj => absurd hj (by omega))
  | succ n ih =>
    rcases ih with h | ⟨i, h1, h2, h3⟩
    · by_cases hp : p n
      · refine .inl (fun j hj => ?_)
        by_cases e : j = n
        · subst e; exact hp
        · exact h j (by omega)
      · exact .inr ⟨n, by omega, hp, h⟩
    · exact .inr ⟨i, by omega, h2, h3⟩
end Go.Proofs.Ytkcalgolanpjaaa

/- The polynomial through points, plain: what is 0 at all other places, scaled, summed up; its values. No program is in sight. -/
import Derived.Test.YtmdpbacjcidpgaaPolyPlain
namespace Go.Proofs.Ytmdpbacjcidpgaa
def oneF (j : Nat) : Nat := if j = 0 then 1 else 0
def linF (c j : Nat) : Nat := if j = 0 then c else if j = 1 then 1 else 0
theorem oneF_zr : Zr 1 oneF := fun j h => by unfold oneF; rw [if_neg (by omega)]
theorem oneF_bd : Bd oneF := fun j => by unfold oneF; split <;> omega
theorem linF_zr (c : Nat) : Zr 2 (linF c) := fun j h => by unfold linF; rw [if_neg (by omega), if_neg (by omega)]
theorem linF_bd (c : Nat) (h : c < 256) : Bd (linF c) := fun j => by unfold linF; split <;> (try split) <;> omega
theorem linF_1 (c : Nat) : linF c 1 = 1 := rfl
theorem linF_td (c : Nat) : td (linF c) 2 = 1 + 1 := td_uniq _ _ _ (fun i h1 h2 => by omega) (fun _ => by rw [show 1 + 1 - 1 = 1 from rfl, linF_1]; omega) (by omega)
theorem oneF_td : td oneF 1 = 0 + 1 := td_uniq _ _ _ (fun i h1 h2 => by omega) (fun _ => by decide) (by omega)
/-- how many factors there are behind k places, the i-th left out -/
def fcN (i k : Nat) : Nat := if i < k then k - 1 else k
/-- 0 at the first k places but the i-th -/
def lbF (X : Nat → Nat) (i : Nat) : Nat → Nat → Nat
  | 0 => oneF
  | k + 1 => if k = i then lbF X i k else cv (lbF X i k) (linF (X k))
def prF (X : Nat → Nat) (i x : Nat) : Nat → Nat
  | 0 => 1
  | k + 1 => if k = i then prF X i x k else rmul (prF X i x k) (x ^^^ X k)
theorem fc_same (i : Nat) : fcN i (i + 1) = fcN i i := by unfold fcN; rw [if_pos (by omega), if_neg (by omega)]; omega
theorem fc_next (i k : Nat) (h : ¬ k = i) : fcN i (k + 1) = fcN i k + 1 := by unfold fcN; split <;> split <;> omega
theorem fc_le (i k : Nat) : fcN i k ≤ k := by unfold fcN; split <;> omega
theorem lb_facts (X : Nat → Nat) (hX : ∀ k, X k < 256) (i k : Nat) : Bd (lbF X i k) ∧ Zr (fcN i k + 1) (lbF X i k) ∧ td (lbF X i k) (fcN i k + 1) = fcN i k + 1 := by
  induction k with
  | zero => exact ⟨oneF_bd, oneF_zr, oneF_td⟩
  | succ k ih =>
    obtain ⟨h1, h2, h3⟩ := ih
    by_cases e : k = i
    · subst e
      rw [fc_same, lbF, if_pos rfl]
      exact ⟨h1, h2, h3⟩
    · rw [fc_next i k e, lbF, if_neg e]
      refine ⟨cv_bd _ _, fun j hj => cv_zr _ _ _ 2 j h2 (linF_zr _) (by omega), ?_⟩
      have h := td_uniq (cv (lbF X i k) (linF (X k))) (fcN i k + 1 + 1) (fcN i k + 1 + 1) (fun j a b => by omega) (fun _ => ?_) (Nat.le_refl _)
      · exact h
      · have hc := cv_top (lbF X i k) (linF (X k)) (fcN i k) 1 h2 (linF_zr _)
        rw [Nat.add_sub_cancel, hc]
        have ht := td_top (lbF X i k) (fcN i k + 1) (by omega)
        rw [h3, Nat.add_sub_cancel] at ht
        exact rmul_ne _ _ (h1 _) (by rw [linF_1]; omega) ht (by rw [linF_1]; omega)
theorem ev_lin (c x : Nat) (hc : c < 256) (hx : x < 256) : ev (linF c) x 2 = x ^^^ c := by
  have e0 : linF c 0 = c := rfl
  have e1 : linF c 1 = 1 := rfl
  have e2 : rpow x 1 = x := by rw [rpow_succ, rpow_zero, rmul_comm 1 x (by decide) hx, rmul_one x hx]
  rw [ev, ev, ev, e0, e1, e2, rpow_zero, rmul_one c hc, rmul_comm 1 x (by decide) hx, rmul_one x hx, Nat.zero_xor, Nat.xor_comm]
theorem ev_one (x n : Nat) : ev oneF x (n + 1) = 1 := by
  rw [ev_stop oneF x 1 (n + 1) oneF_zr (by omega), ev, ev, rpow_zero]
  decide +kernel
theorem pr_lt (X : Nat → Nat) (i x k : Nat) : prF X i x k < 256 := by
  induction k with
  | zero => exact (by decide : 1 < 256)
  | succ k ih => rw [prF]; split; exact ih; exact rmul_lt _ _
theorem lb_ev (X : Nat → Nat) (hX : ∀ k, X k < 256) (i x k N : Nat) (hx : x < 256) (h : fcN i k + 1 ≤ N) : ev (lbF X i k) x N = prF X i x k := by
  induction k generalizing N with
  | zero =>
    obtain ⟨m, rfl⟩ : ∃ m, N = m + 1 := ⟨N - 1, by omega⟩
    exact ev_one x m
  | succ k ih =>
    obtain ⟨h1, h2, h3⟩ := lb_facts X hX i k
    by_cases e : k = i
    · subst e
      rw [fc_same] at h
      rw [lbF, if_pos rfl, prF, if_pos rfl, ih N h]
    · rw [fc_next i k e] at h
      rw [lbF, if_neg e, prF, if_neg e, ev_cv _ _ x (fcN i k + 1) 2 N hx h1 (linF_bd _ (hX k)) h2 (linF_zr _) (by omega), ih _ (Nat.le_refl _), ev_lin _ _ (hX k) hx]
theorem pr_zero (X : Nat → Nat) (i k m : Nat) (h : m < k) (hm : m ≠ i) : prF X i (X m) k = 0 := by
  induction k with
  | zero => omega
  | succ k ih =>
    rw [prF]
    by_cases e : k = i
    · subst e
      rw [if_pos rfl]; exact ih (by omega)
    · rw [if_neg e]
      by_cases e2 : m = k
      · subst e2; rw [Nat.xor_self, rmul_zero_right]
      · rw [ih (by omega), rmul_zero_left]
theorem xor_ne {a b : Nat} (h : a ≠ b) : a ^^^ b ≠ 0 := fun e => h (by
  have : (a ^^^ b) ^^^ b = 0 ^^^ b := by rw [e]
  rw [Nat.xor_assoc, Nat.xor_self, Nat.xor_zero, Nat.zero_xor] at this
  exact this)
theorem pr_ne (X : Nat → Nat) (hX : ∀ k, X k < 256) (i k n : Nat) (hi : i < n) (hk : k ≤ n) (hd : ∀ a b, a < n → b < n → a ≠ b → X a ≠ X b) : prF X i (X i) k ≠ 0 := by
  induction k with
  | zero => exact (by decide : 1 ≠ 0)
  | succ k ih =>
    rw [prF]
    by_cases e : k = i
    · rw [if_pos e]; exact ih (by omega)
    · rw [if_neg e]
      exact rmul_ne _ _ (pr_lt _ _ _ _) (xor_lt8 (hX i) (hX k)) (ih (by omega)) (xor_ne (hd i k hi (by omega) (fun h => e h.symm)))
/-- the sum of the first i parts, of n points -/
def lgF (X Y : Nat → Nat) (n : Nat) : Nat → Nat → Nat
  | 0 => fun _ => 0
  | i + 1 => fun j => lgF X Y n i j ^^^ rmul (rmul (Y i) (rinv (prF X i (X i) n))) (lbF X i n j)
theorem lg_facts (X Y : Nat → Nat) (hX : ∀ k, X k < 256) (n i : Nat) (hi : i ≤ n) : Bd (lgF X Y n i) ∧ Zr n (lgF X Y n i) := by
  induction i with
  | zero => exact ⟨fun _ => (by decide : 0 < 256), fun _ _ => rfl⟩
  | succ i ih =>
    obtain ⟨h1, h2⟩ := ih (by omega)
    obtain ⟨q1, q2, _⟩ := lb_facts X hX i n
    have e : fcN i n + 1 = n := by unfold fcN; rw [if_pos (by omega)]; omega
    rw [e] at q2
    exact ⟨fun j => xor_lt8 (h1 j) (rmul_lt _ _), fun j hj => by show lgF X Y n i j ^^^ _ = 0; rw [h2 j hj, q2 j hj, rmul_zero_right]; rfl⟩
theorem ev_scaled (f : Nat → Nat) (c x n : Nat) (hc : c < 256) (hf : Bd f) : ev (fun j => rmul c (f j)) x n = rmul c (ev f x n) := by
  induction n with
  | zero => rw [show ev f x 0 = 0 from rfl, rmul_zero_right]; rfl
  | succ n ih => rw [ev, ev, ih, rmul_xor_right, rmul_assoc _ _ _ hc (hf n) (rpow_lt x n)]
theorem lg_ev (X Y : Nat → Nat) (hX : ∀ k, X k < 256) (hY : ∀ k, Y k < 256) (n i m : Nat) (hi : i ≤ n) (hm : m < n) (hd : ∀ a b, a < n → b < n → a ≠ b → X a ≠ X b) :
    ev (lgF X Y n i) (X m) n = if m < i then Y m else 0 := by
  induction i with
  | zero =>
    rw [if_neg (by omega)]
    have : ∀ k, ev (lgF X Y n 0) (X m) k = 0 := by
      intro k
      induction k with
      | zero => rfl
      | succ k ih => rw [ev, ih, show lgF X Y n 0 k = 0 from rfl, rmul_zero_left]; rfl
    exact this n
  | succ i ih =>
    obtain ⟨q1, q2, _⟩ := lb_facts X hX i n
    have e : fcN i n + 1 = n := by unfold fcN; rw [if_pos (by omega)]; omega
    have hc : rmul (Y i) (rinv (prF X i (X i) n)) < 256 := rmul_lt _ _
    have e1 : ev (lgF X Y n (i + 1)) (X m) n = ev (lgF X Y n i) (X m) n ^^^ ev (fun j => rmul (rmul (Y i) (rinv (prF X i (X i) n))) (lbF X i n j)) (X m) n := ev_xor _ _ _ _
    rw [e1, ih (by omega), ev_scaled _ _ _ _ hc q1, lb_ev X hX i (X m) n n (hX m) (by omega)]
    by_cases hmi : m = i
    · subst hmi
      have hp := pr_ne X hX m n n hm (Nat.le_refl _) hd
      rw [if_neg (by omega), if_pos (by omega), Nat.zero_xor, div_mul _ _ (hY m) (pr_lt _ _ _ _) hp]
    · rw [pr_zero X i n m hm hmi, rmul_zero_right, Nat.xor_zero]
      by_cases h : m < i
      · rw [if_pos h, if_pos (by omega)]
      · rw [if_neg h, if_neg (by omega)]
end Go.Proofs.Ytmdpbacjcidpgaa

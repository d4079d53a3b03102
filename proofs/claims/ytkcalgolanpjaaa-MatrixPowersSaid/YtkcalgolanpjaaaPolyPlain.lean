/- Polynomials over the field as functions from places to coefficients: their tops, products, values, division. No program is in sight. -/
import Derived.Test.YtkcalgolanpjaaaGfPlain
namespace Go.Proofs.Ytkcalgolanpjaaa
def Zr (n : Nat) (f : Nat → Nat) : Prop := ∀ i, n ≤ i → f i = 0
def Bd (f : Nat → Nat) : Prop := ∀ i, f i < 256
theorem Zr.mono {n m : Nat} {f : Nat → Nat} (h : Zr n f) (hm : n ≤ m) : Zr m f := fun i hi => h i (by omega)
/-- how many coefficients there are without the noughts at the end -/
def td (f : Nat → Nat) : Nat → Nat
  | 0 => 0
  | n + 1 => if f n = 0 then td f n else n + 1
theorem td_le (f : Nat → Nat) (n : Nat) : td f n ≤ n := by
  induction n with
  | zero => exact Nat.le_refl 0
  | succ n ih => simp only [td]; split <;> omega
theorem td_zero (f : Nat → Nat) (n i : Nat) (h : td f n ≤ i) (hi : i < n) : f i = 0 := by
  induction n with
  | zero => omega
  | succ n ih =>
    simp only [td] at h
    split at h
    · by_cases e : i = n
      · subst e; assumption
      · exact ih h (by omega)
    · omega
theorem td_top (f : Nat → Nat) (n : Nat) (h : 0 < td f n) : f (td f n - 1) ≠ 0 := by
  induction n with
  | zero => exact absurd h (by simp [td])
  | succ n ih =>
    simp only [td] at h ⊢
    split
    · rename_i e; rw [if_pos e] at h; exact ih h
    · rename_i e; rw [Nat.add_sub_cancel]; exact e
theorem td_zr (f : Nat → Nat) (n : Nat) (h : Zr n f) : Zr (td f n) f := fun i hi => by
  by_cases e : i < n
  · exact td_zero f n i hi e
  · exact h i (by omega)
theorem td_congr (f g : Nat → Nat) (n : Nat) (h : ∀ i, i < n → f i = g i) : td f n = td g n := by
  induction n with
  | zero => rfl
  | succ n ih => simp only [td]; rw [h n (by omega), ih fun i hi => h i (by omega)]
theorem td_uniq (f : Nat → Nat) (n m : Nat) (hz : ∀ i, m ≤ i → i < n → f i = 0) (ht : 0 < m → f (m - 1) ≠ 0) (hm : m ≤ n) : td f n = m := by
  induction n with
  | zero => simp only [td]; omega
  | succ n ih =>
    simp only [td]
    by_cases e : m = n + 1
    · subst e; rw [if_neg (by simpa using ht (by omega))]
    · rw [if_pos (hz n (by omega) (by omega)), ih (fun i h1 h2 => hz i h1 (by omega)) (by omega)]
theorem td_more (f : Nat → Nat) (n m : Nat) (h : Zr n f) (hm : n ≤ m) : td f m = td f n :=
  td_uniq f m (td f n) (fun i h1 _ => td_zr f n h i h1) (td_top f n) (Nat.le_trans (td_le f n) hm)
theorem xor_self' (a : Nat) : a ^^^ a = 0 := Nat.xor_self a
theorem xor_lt8 {a b : Nat} (ha : a < 256) (hb : b < 256) : a ^^^ b < 256 := Nat.xor_lt_two_pow (n := 8) ha hb
/-! ### products -/
def cvs (f g : Nat → Nat) (k : Nat) : Nat → Nat
  | 0 => 0
  | i + 1 => cvs f g k i ^^^ (if i ≤ k then rmul (f i) (g (k - i)) else 0)
def cv (f g : Nat → Nat) (k : Nat) : Nat := cvs f g k (k + 1)
theorem cvs_lt (f g : Nat → Nat) (k n : Nat) : cvs f g k n < 256 := by
  induction n with
  | zero => exact (by decide : 0 < 256)
  | succ n ih => simp only [cvs]; refine xor_lt8 ih ?_; split; exact rmul_lt _ _; decide
theorem cv_bd (f g : Nat → Nat) : Bd (cv f g) := fun k => cvs_lt f g k _
theorem cvs_big (f g : Nat → Nat) (k n : Nat) (h : k + 1 ≤ n) : cvs f g k n = cv f g k := by
  obtain ⟨d, rfl⟩ : ∃ d, n = k + 1 + d := ⟨n - (k + 1), by omega⟩
  induction d with
  | zero => rfl
  | succ d ih => rw [← Nat.add_assoc, cvs, ih (by omega), if_neg (by omega), Nat.xor_zero]
theorem cvs_stop (f g : Nat → Nat) (k n m : Nat) (h : Zr n f) (hm : n ≤ m) : cvs f g k m = cvs f g k n := by
  obtain ⟨d, rfl⟩ : ∃ d, m = n + d := ⟨m - n, by omega⟩
  induction d with
  | zero => rfl
  | succ d ih =>
    rw [← Nat.add_assoc, cvs, ih (by omega), h (n + d) (by omega), rmul_zero_left]
    split <;> exact Nat.xor_zero _
theorem cvs_all (f g : Nat → Nat) (k n : Nat) (h : Zr n f) : cvs f g k n = cv f g k := by
  by_cases e : k + 1 ≤ n
  · exact cvs_big f g k n e
  · exact (cvs_stop f g k n (k + 1) h (by omega)).symm
theorem cv_zr (f g : Nat → Nat) (n m k : Nat) (hf : Zr n f) (hg : Zr m g) (h : n + m ≤ k + 1) : cv f g k = 0 := by
  have : ∀ i, cvs f g k i = 0 := by
    intro i
    induction i with
    | zero => rfl
    | succ i ih =>
      rw [cvs, ih, Nat.zero_xor]
      split
      · by_cases e : i < n
        · rw [hg (k - i) (by omega), rmul_zero_right]
        · rw [hf i (by omega), rmul_zero_left]
      · rfl
  exact this _
theorem cv_top (f g : Nat → Nat) (n m : Nat) (hf : Zr (n + 1) f) (hg : Zr (m + 1) g) : cv f g (n + m) = rmul (f n) (g m) := by
  have h0 : ∀ i, i ≤ n → cvs f g (n + m) i = 0 := by
    intro i
    induction i with
    | zero => intro _; rfl
    | succ i ih => intro hi; rw [cvs, ih (by omega), Nat.zero_xor, if_pos (by omega), hg _ (by omega), rmul_zero_right]
  rw [← cvs_all f g (n + m) (n + 1) hf, cvs, h0 n (Nat.le_refl _), Nat.zero_xor, if_pos (by omega), Nat.add_sub_cancel_left]
theorem cvs_congr (f f' g g' : Nat → Nat) (k n : Nat) (hf : ∀ i, f i = f' i) (hg : ∀ i, g i = g' i) : cvs f g k n = cvs f' g' k n := by
  have e1 : f = f' := funext hf
  have e2 : g = g' := funext hg
  rw [e1, e2]
/-! ### values -/
def ev (f : Nat → Nat) (x : Nat) : Nat → Nat
  | 0 => 0
  | n + 1 => ev f x n ^^^ rmul (f n) (rpow x n)
theorem ev_lt (f : Nat → Nat) (x n : Nat) : ev f x n < 256 := by
  induction n with
  | zero => exact (by decide : 0 < 256)
  | succ n ih => exact xor_lt8 ih (rmul_lt _ _)
theorem ev_stop (f : Nat → Nat) (x n m : Nat) (h : Zr n f) (hm : n ≤ m) : ev f x m = ev f x n := by
  obtain ⟨d, rfl⟩ : ∃ d, m = n + d := ⟨m - n, by omega⟩
  induction d with
  | zero => rfl
  | succ d ih => rw [← Nat.add_assoc, ev, ih (by omega), h (n + d) (by omega), rmul_zero_left, Nat.xor_zero]
theorem ev_congr (f g : Nat → Nat) (x n : Nat) (h : ∀ i, i < n → f i = g i) : ev f x n = ev g x n := by
  induction n with
  | zero => rfl
  | succ n ih => rw [ev, ev, ih fun i hi => h i (by omega), h n (by omega)]
theorem ev_xor (f g : Nat → Nat) (x n : Nat) : ev (fun i => f i ^^^ g i) x n = ev f x n ^^^ ev g x n := by
  induction n with
  | zero => exact (Nat.xor_zero 0).symm
  | succ n ih => simp only [ev]; rw [ih, rmul_xor_left, xor4]
theorem rpow_add (x i n : Nat) (hx : x < 256) : rpow x (i + n) = rmul (rpow x i) (rpow x n) := by
  induction n with
  | zero => exact (rmul_one _ (rpow_lt x i)).symm
  | succ n ih => rw [← Nat.add_assoc, rpow_succ, rpow_succ, ih, rmul_assoc _ _ _ (rpow_lt x i) (rpow_lt x n) hx]
theorem ev_shift (g : Nat → Nat) (x c i n : Nat) (hx : x < 256) (hc : c < 256) (hg : Bd g) : ev (fun j => if i ≤ j then rmul c (g (j - i)) else 0) x (i + n) = rmul (rmul c (rpow x i)) (ev g x n) := by
  induction n with
  | zero =>
    have : ∀ m, m ≤ i → ev (fun j => if i ≤ j then rmul c (g (j - i)) else 0) x m = 0 := by
      intro m
      induction m with
      | zero => intro _; rfl
      | succ m ih => intro hm; rw [ev, ih (by omega), if_neg (by omega), rmul_zero_left]; rfl
    rw [Nat.add_zero, this i (Nat.le_refl _)]
    exact (rmul_zero_right _).symm
  | succ n ih =>
    rw [← Nat.add_assoc, ev, ih, ev]
    rw [if_pos (by omega), Nat.add_sub_cancel_left, rmul_xor_right, rpow_add x i n hx]
    congr 1
    rw [rmul_assoc _ _ _ (rmul_lt _ _) (rpow_lt x i) (rpow_lt x n), rmul_assoc _ _ _ (rmul_lt _ _) (hg n) (rpow_lt x n)]
    congr 1
    rw [← rmul_assoc _ _ _ hc (hg n) (rpow_lt x i), ← rmul_assoc _ _ _ hc (rpow_lt x i) (hg n), rmul_comm (g n) _ (hg n) (rpow_lt x i)]
theorem ev_cvs (f g : Nat → Nat) (x m N i : Nat) (hx : x < 256) (hf : Bd f) (hg : Bd g) (hm : Zr m g) (h : i + m ≤ N + 1) : ev (fun j => cvs f g j i) x N = rmul (ev f x i) (ev g x m) := by
  induction i with
  | zero =>
    rw [show ev f x 0 = 0 from rfl, rmul_zero_left]
    have : ∀ n, ev (fun j => cvs f g j 0) x n = 0 := by
      intro n
      induction n with
      | zero => rfl
      | succ n ih => rw [ev, ih, show cvs f g n 0 = 0 from rfl, rmul_zero_left]; rfl
    exact this N
  | succ i ih =>
    have e : ev (fun j => cvs f g j (i + 1)) x N = ev (fun j => cvs f g j i ^^^ (if i ≤ j then rmul (f i) (g (j - i)) else 0)) x N := ev_congr _ _ _ _ fun j _ => rfl
    rw [e, ev_xor, ih (by omega), ev, rmul_xor_left]
    congr 1
    by_cases hi : i ≤ N
    · obtain ⟨d, rfl⟩ : ∃ d, N = i + d := ⟨N - i, by omega⟩
      rw [ev_shift g x (f i) i d hx (hf i) hg]
      congr 1
      by_cases hd : m ≤ d
      · exact ev_stop g x m d hm hd
      · omega
    · omega
theorem ev_cv (f g : Nat → Nat) (x n m N : Nat) (hx : x < 256) (hf : Bd f) (hg : Bd g) (hn : Zr n f) (hm : Zr m g) (h : n + m ≤ N + 1) : ev (cv f g) x N = rmul (ev f x n) (ev g x m) := by
  rw [← ev_cvs f g x m N n hx hf hg hm h]
  exact ev_congr _ _ _ _ fun j _ => (cvs_all f g j n hn).symm
/-- Horner's way: s coefficients are taken in -/
def hv (f : Nat → Nat) (x n : Nat) : Nat → Nat
  | 0 => 0
  | s + 1 => rmul (hv f x n s) x ^^^ f (n - 1 - s)
theorem hv_lt (f : Nat → Nat) (x n s : Nat) (hf : Bd f) : hv f x n s < 256 := by
  cases s with
  | zero => exact (by decide : 0 < 256)
  | succ s => exact xor_lt8 (rmul_lt _ _) (hf _)
theorem hv_part (f : Nat → Nat) (x n s : Nat) (hx : x < 256) (hf : Bd f) (h : s ≤ n) : rmul (hv f x n s) (rpow x (n - s)) ^^^ ev f x (n - s) = ev f x n := by
  induction s with
  | zero => rw [show hv f x n 0 = 0 from rfl, rmul_zero_left, Nat.zero_xor, Nat.sub_zero]
  | succ s ih =>
    rw [← ih (by omega)]
    obtain ⟨k, hk⟩ : ∃ k, n - s = k + 1 := ⟨n - s - 1, by omega⟩
    rw [show n - (s + 1) = k by omega, hk, hv, show n - 1 - s = k by omega, ev, rmul_xor_left, rpow_succ, rmul_comm (rpow x k) x (rpow_lt x k) hx, rmul_assoc _ _ _ (hv_lt f x n s hf) hx (rpow_lt x k), Nat.xor_assoc, Nat.xor_comm (rmul (f k) (rpow x k))]
theorem hv_all (f : Nat → Nat) (x n : Nat) (hx : x < 256) (hf : Bd f) : hv f x n n = ev f x n := by
  have h := hv_part f x n n hx hf (Nat.le_refl _)
  rw [Nat.sub_self, rpow_zero, rmul_one _ (hv_lt f x n n hf), show ev f x 0 = 0 from rfl, Nat.xor_zero] at h
  exact h
/-! ### division -/
def upd (q : Nat → Nat) (i c j : Nat) : Nat := if j = i then c else q j
theorem cvs_upd (q b : Nat → Nat) (i c k n : Nat) (hq : q i = 0) : cvs (upd q i c) b k n = cvs q b k n ^^^ (if i < n ∧ i ≤ k then rmul c (b (k - i)) else 0) := by
  induction n with
  | zero => rw [if_neg (by omega)]; exact (Nat.xor_zero _).symm
  | succ n ih =>
    rw [cvs, cvs, ih]
    by_cases e : n = i
    · subst e
      rw [if_neg (by omega), Nat.xor_zero]
      unfold upd
      rw [if_pos rfl, hq, rmul_zero_left]
      by_cases h : n ≤ k
      · simp [h]
      · simp [h]
    · rw [show upd q i c n = q n from if_neg e]
      have hc : (if i < n + 1 ∧ i ≤ k then rmul c (b (k - i)) else 0) = (if i < n ∧ i ≤ k then rmul c (b (k - i)) else 0) := by
        by_cases h : i < n ∧ i ≤ k
        · rw [if_pos h, if_pos ⟨by omega, h.2⟩]
        · rw [if_neg h, if_neg (by omega)]
      rw [hc, Nat.xor_assoc, Nat.xor_assoc, Nat.xor_comm (if i < n ∧ i ≤ k then _ else _)]
theorem cv_upd (q b : Nat → Nat) (i c k : Nat) (hq : q i = 0) : cv (upd q i c) b k = cv q b k ^^^ (if i ≤ k then rmul c (b (k - i)) else 0) := by
  unfold cv
  rw [cvs_upd q b i c k (k + 1) hq]
  congr 1
  by_cases h : i ≤ k
  · rw [if_pos h, if_pos ⟨by omega, h⟩]
  · rw [if_neg h, if_neg (fun h2 => h h2.2)]
/-- a quotient by what isn't 0, times it -/
theorem div_mul (a b : Nat) (ha : a < 256) (hb : b < 256) (b0 : b ≠ 0) : rmul (rmul a (rinv b)) b = a := by
  rw [← rmul_assoc _ _ _ ha (rinv_lt b) hb, rmul_comm (rinv b) b (rinv_lt b) hb, rmul_rinv b hb b0, rmul_one a ha]
end Go.Proofs.Ytkcalgolanpjaaa

import Derived.Test.YtmfagdbocidfjaaV01
/- The field of 256 elements in plain numbers: powers of x, logarithms, the product bit by bit; that the two products are one; the field's laws. No program is in sight. -/
namespace Go.Proofs.Ytmfagdbocidfjaa

/-- one more power of x -/
def gstep (w : Nat) : Nat := if 2 * w > 255 then (2 * w) ^^^ 285 else 2 * w
def gexp : Nat → Nat
  | 0 => 1
  | k + 1 => gstep (gexp k)

set_option maxRecDepth 100000 in
theorem gstep_lt (w : Nat) (h : w < 256) : gstep w < 256 := by
  revert w; decide +kernel
set_option maxRecDepth 100000 in
theorem gexp_lt (k : Nat) : gexp k < 256 := by
  induction k with
  | zero => decide
  | succ k ih => exact gstep_lt _ ih

/-! ### linear functions of bits -/
set_option maxRecDepth 100000 in
theorem xor4 (a b c d : Nat) : (a ^^^ b) ^^^ (c ^^^ d) = (a ^^^ c) ^^^ (b ^^^ d) := by
  rw [Nat.xor_assoc, ← Nat.xor_assoc b, Nat.xor_comm b c, Nat.xor_assoc, Nat.xor_assoc]

set_option maxRecDepth 100000 in
theorem odd_xor (x y i : Nat) : ((x ^^^ y) >>> i) % 2 = ((x >>> i) % 2 + (y >>> i) % 2) % 2 := by
  have h : ∀ z : Nat, (z >>> i) % 2 = (z.testBit i).toNat := by
    intro z
    rw [Nat.testBit, Nat.and_comm, Nat.and_one_is_mod]
    rcases Nat.mod_two_eq_zero_or_one (z >>> i) with h | h <;> simp [h]
  rw [h, h, h, Nat.testBit_xor]
  cases x.testBit i <;> cases y.testBit i <;> rfl

def mulA (a b : Nat) : Nat → Nat
  | 0 => 0
  | i + 1 => if (b >>> i) % 2 = 1 then mulA a b i ^^^ (a <<< i) else mulA a b i
def redB (n : Nat) : Nat → Nat
  | 0 => n
  | j + 1 => if (redB n j >>> (14 - j)) % 2 = 1 then redB n j ^^^ (285 <<< (6 - j)) else redB n j
/-- the document's product -/
def rmul (a b : Nat) : Nat := redB (mulA a b 8) 7 % 256

set_option maxRecDepth 100000 in
theorem mulA_xor_right (a b c i : Nat) : mulA a (b ^^^ c) i = mulA a b i ^^^ mulA a c i := by
  induction i with
  | zero => simp [mulA]
  | succ i ih =>
    simp only [mulA, ih, odd_xor]
    rcases Nat.mod_two_eq_zero_or_one (b >>> i) with h | h <;> rcases Nat.mod_two_eq_zero_or_one (c >>> i) with k | k
    · simp [h, k]
    · simp [h, k, Nat.xor_assoc]
    · simp [h, k]; rw [Nat.xor_assoc, Nat.xor_assoc, Nat.xor_comm (mulA a c i)]
    · simp [h, k]; rw [xor4, Nat.xor_self, Nat.xor_zero]
set_option maxRecDepth 100000 in
theorem mulA_xor_left (a b c i : Nat) : mulA (a ^^^ b) c i = mulA a c i ^^^ mulA b c i := by
  induction i with
  | zero => simp [mulA]
  | succ i ih =>
    simp only [mulA, ih]
    rcases Nat.mod_two_eq_zero_or_one (c >>> i) with h | h
    · simp [h]
    · simp only [h, if_true]
      rw [Nat.shiftLeft_xor_distrib, xor4]
set_option maxRecDepth 100000 in
theorem redB_xor (x y j : Nat) : redB (x ^^^ y) j = redB x j ^^^ redB y j := by
  induction j with
  | zero => rfl
  | succ j ih =>
    simp only [redB, ih, odd_xor]
    rcases Nat.mod_two_eq_zero_or_one (redB x j >>> (14 - j)) with h | h <;> rcases Nat.mod_two_eq_zero_or_one (redB y j >>> (14 - j)) with k | k
    · simp [h, k]
    · simp [h, k, Nat.xor_assoc]
    · simp [h, k]; rw [Nat.xor_assoc, Nat.xor_assoc, Nat.xor_comm (redB y j)]
    · simp [h, k]; rw [xor4, Nat.xor_self, Nat.xor_zero]
set_option maxRecDepth 100000 in
theorem rmul_xor_right (a b c : Nat) : rmul a (b ^^^ c) = rmul a b ^^^ rmul a c := by
  unfold rmul
  rw [mulA_xor_right, redB_xor]
  exact Nat.xor_mod_two_pow (n := 8)
set_option maxRecDepth 100000 in
theorem rmul_xor_left (a b c : Nat) : rmul (a ^^^ b) c = rmul a c ^^^ rmul b c := by
  unfold rmul
  rw [mulA_xor_left, redB_xor]
  exact Nat.xor_mod_two_pow (n := 8)
set_option maxRecDepth 100000 in
theorem rmul_lt (a b : Nat) : rmul a b < 256 := Nat.mod_lt _ (by decide)

set_option maxRecDepth 100000 in
/-- Two functions that turn sums into sums and agree at 1, 2, 4, .., 128 agree below 256. -/
theorem lin_ext (f g : Nat → Nat) (hf : ∀ x y, x < 256 → y < 256 → f (x ^^^ y) = f x ^^^ f y) (hg : ∀ x y, x < 256 → y < 256 → g (x ^^^ y) = g x ^^^ g y)
    (h : ∀ i, i < 8 → f (2 ^ i) = g (2 ^ i)) : ∀ n x, n ≤ 8 → x < 2 ^ n → f x = g x := by
  have f0 : f 0 = 0 := by have := hf 0 0 (by decide) (by decide); simpa using this
  have g0 : g 0 = 0 := by have := hg 0 0 (by decide) (by decide); simpa using this
  intro n
  induction n with
  | zero => intro x _ hx; obtain rfl : x = 0 := by simpa using hx
            rw [f0, g0]
  | succ n ih =>
    intro x hn hx
    by_cases hlt : x < 2 ^ n
    · exact ih x (by omega) hlt
    · have hp : 2 ^ (n + 1) = 2 * 2 ^ n := by rw [Nat.pow_succ, Nat.mul_comm]
      have h256 : 2 ^ (n + 1) ≤ 2 ^ 8 := Nat.pow_le_pow_right (by decide) (by omega)
      have h256' : (2 : Nat) ^ 8 = 256 := rfl
      obtain ⟨y, rfl⟩ : ∃ y, x = 2 ^ n + y := ⟨x - 2 ^ n, by omega⟩
      have hy : y < 2 ^ n := by omega
      have hsum : 2 ^ n + y = 2 ^ n ^^^ y := by
        have h1 := Nat.two_pow_add_eq_or_of_lt hy 1
        simp only [Nat.mul_one] at h1
        rw [h1]
        apply Nat.eq_of_testBit_eq
        intro j
        rw [Nat.testBit_or, Nat.testBit_xor, Nat.testBit_two_pow]
        by_cases e : n = j
        · subst e; rw [Nat.testBit_lt_two_pow hy]; simp
        · simp [e]
      rw [hsum, hf _ _ (by omega) (by omega), hg _ _ (by omega) (by omega), h n (by omega), ih y (by omega) hy]

set_option maxRecDepth 100000 in
theorem gstep_lin (x y : Nat) (hx : x < 256) (hy : y < 256) : gstep (x ^^^ y) = gstep x ^^^ gstep y := by
  have key : ∀ w, w < 256 → gstep w = (2 * w) ^^^ (if (w >>> 7) % 2 = 1 then 285 else 0) := by decide +kernel
  have hxy : x ^^^ y < 256 := Nat.xor_lt_two_pow (n := 8) hx hy
  rw [key _ hx, key _ hy, key _ hxy, odd_xor]
  have hd : 2 * (x ^^^ y) = (2 * x) ^^^ (2 * y) := by
    have := Nat.shiftLeft_xor_distrib (a := x) (b := y) (i := 1)
    simpa [Nat.shiftLeft_eq, Nat.mul_comm] using this
  rw [hd, xor4]
  congr 1
  rcases Nat.mod_two_eq_zero_or_one (x >>> 7) with h | h <;> rcases Nat.mod_two_eq_zero_or_one (y >>> 7) with k | k <;> simp [h, k]

set_option maxRecDepth 100000 in
theorem rmul_gstep (a b : Nat) (ha : a < 256) (hb : b < 256) : rmul a (gstep b) = gstep (rmul a b) := by
  have key : ∀ i, i < 8 → ∀ j, j < 8 → rmul (2 ^ j) (gstep (2 ^ i)) = gstep (rmul (2 ^ j) (2 ^ i)) := by decide +kernel
  refine lin_ext (fun b => rmul a (gstep b)) (fun b => gstep (rmul a b)) ?_ ?_ ?_ 8 b (by decide) hb
  · intro x y hx hy; simp only [gstep_lin x y hx hy, rmul_xor_right]
  · intro x y hx hy; simp only [rmul_xor_right]; exact gstep_lin _ _ (rmul_lt _ _) (rmul_lt _ _)
  · intro i hi
    refine lin_ext (fun a => rmul a (gstep (2 ^ i))) (fun a => gstep (rmul a (2 ^ i))) ?_ ?_ ?_ 8 a (by decide) ha
    · intro x y hx hy; simp only [rmul_xor_left]
    · intro x y hx hy; simp only [rmul_xor_left]; exact gstep_lin _ _ (rmul_lt _ _) (rmul_lt _ _)
    · intro j hj; exact key i hi j hj
set_option maxRecDepth 100000 in
theorem rmul_one (a : Nat) (ha : a < 256) : rmul a 1 = a := by
  revert a; decide +kernel
set_option maxRecDepth 100000 in
theorem rmul_gexp (j k : Nat) : rmul (gexp j) (gexp k) = gexp (j + k) := by
  induction k with
  | zero => exact rmul_one _ (gexp_lt j)
  | succ k ih =>
    show rmul (gexp j) (gstep (gexp k)) = gstep (gexp (j + k))
    rw [rmul_gstep _ _ (gexp_lt j) (gexp_lt k), ih]
set_option maxRecDepth 100000 in
theorem rmul_zero_left (b : Nat) : rmul 0 b = 0 := by
  have := rmul_xor_left 0 0 b
  simpa using this
set_option maxRecDepth 100000 in
theorem rmul_zero_right (a : Nat) : rmul a 0 = 0 := by
  have := rmul_xor_right a 0 0
  simpa using this

/-! ### the logarithm -/
def expList : Nat → Nat → List Nat
  | 0, _ => []
  | n + 1, w => w :: expList n (gstep w)
def expL : List Nat := expList 255 1
set_option maxRecDepth 100000 in
theorem expList_length (n w : Nat) : (expList n w).length = n := by
  induction n generalizing w with
  | zero => rfl
  | succ n ih => simp [expList, ih]
def gpow (k w : Nat) : Nat := Nat.rec w (fun _ x => gstep x) k
set_option maxRecDepth 100000 in
theorem gpow_step (k w : Nat) : gpow k (gstep w) = gstep (gpow k w) := by
  induction k with
  | zero => rfl
  | succ k ih => show gstep (gpow k (gstep w)) = _; rw [ih]; rfl
set_option maxRecDepth 100000 in
theorem gexp_gpow (k : Nat) : gexp k = gpow k 1 := by
  induction k with
  | zero => rfl
  | succ k ih => show gstep (gexp k) = gstep (gpow k 1); rw [ih]
set_option maxRecDepth 100000 in
theorem expList_get (n w k : Nat) (h : k < n) : (expList n w)[k]? = some (gpow k w) := by
  induction n generalizing w k with
  | zero => omega
  | succ n ih =>
    cases k with
    | zero => rfl
    | succ k =>
      show (expList n (gstep w))[k]? = _
      rw [ih _ _ (by omega), gpow_step]; rfl
set_option maxRecDepth 100000 in
theorem expL_get (k : Nat) (h : k < 255) : expL[k]? = some (gexp k) := by
  rw [gexp_gpow]; exact expList_get 255 1 k h
set_option maxRecDepth 100000 in
theorem expL_length : expL.length = 255 := expList_length _ _
set_option maxRecDepth 100000 in
theorem expL_nodup : expL.Nodup := by decide +kernel
set_option maxRecDepth 100000 in
theorem expL_all : ∀ a, a < 256 → a ≠ 0 → a ∈ expL := by
  have h : (List.range 256).all (fun a => a == 0 || expL.contains a) = true := by decide +kernel
  intro a ha h0
  have := List.all_eq_true.1 h a (by simpa using ha)
  simpa [h0] using this
def glog (a : Nat) : Nat := expL.idxOf a
set_option maxRecDepth 100000 in
theorem glog_lt (a : Nat) (ha : a < 256) (h0 : a ≠ 0) : glog a < 255 := by
  have := List.idxOf_lt_length_of_mem (expL_all a ha h0)
  rwa [expL_length] at this
set_option maxRecDepth 100000 in
theorem gexp_glog (a : Nat) (ha : a < 256) (h0 : a ≠ 0) : gexp (glog a) = a := by
  have hlt := List.idxOf_lt_length_of_mem (expL_all a ha h0)
  have h1 := expL_get (glog a) (glog_lt a ha h0)
  have h2 : expL[expL.idxOf a]? = some a := by
    rw [List.getElem?_eq_getElem hlt, List.getElem_idxOf hlt]
  have h3 : some (gexp (glog a)) = some a := h1.symm.trans h2
  simpa using h3
set_option maxRecDepth 100000 in
theorem gexp_inj (j k : Nat) (hj : j < 255) (hk : k < 255) (h : gexp j = gexp k) : j = k := by
  have h1 := expL_get j hj
  have h2 := expL_get k hk
  have hj' : j < expL.length := by rw [expL_length]; exact hj
  have hk' : k < expL.length := by rw [expL_length]; exact hk
  rw [List.getElem?_eq_getElem hj'] at h1
  rw [List.getElem?_eq_getElem hk'] at h2
  have : expL[j] = expL[k] := by
    simp only [Option.some.injEq] at h1 h2
    rw [h1, h2, h]
  exact (List.getElem_inj expL_nodup).1 this
set_option maxRecDepth 100000 in
theorem glog_gexp (k : Nat) (hk : k < 255) (h0 : gexp k ≠ 0) : glog (gexp k) = k :=
  gexp_inj _ _ (glog_lt _ (gexp_lt k) h0) hk (gexp_glog _ (gexp_lt k) h0)
set_option maxRecDepth 100000 in
theorem gexp_pos (k : Nat) : gexp k ≠ 0 := by
  have key : ∀ w, w < 256 → w ≠ 0 → gstep w ≠ 0 := by decide +kernel
  induction k with
  | zero => decide
  | succ k ih => exact key _ (gexp_lt k) ih
set_option maxRecDepth 100000 in
theorem gexp_255 : gexp 255 = 1 := by decide +kernel
set_option maxRecDepth 100000 in
theorem gexp_add255 (k : Nat) : gexp (k + 255) = gexp k := by
  induction k with
  | zero => exact gexp_255
  | succ k ih =>
    have : k + 1 + 255 = (k + 255) + 1 := by omega
    rw [this]
    show gstep (gexp (k + 255)) = gstep (gexp k)
    rw [ih]
set_option maxRecDepth 100000 in
theorem gexp_mod (k : Nat) : gexp (k % 255) = gexp k := by
  have : ∀ q r : Nat, gexp (r + 255 * q) = gexp r := by
    intro q
    induction q with
    | zero => intro r; rfl
    | succ q ih => intro r; rw [show r + 255 * (q + 1) = (r + 255 * q) + 255 by omega, gexp_add255, ih]
  conv => rhs; rw [← Nat.mod_add_div k 255]
  rw [this]

/-! ### the field's laws -/
set_option maxRecDepth 100000 in
theorem rmul_log (a b : Nat) (ha : a < 256) (hb : b < 256) (a0 : a ≠ 0) (b0 : b ≠ 0) : rmul a b = gexp (glog a + glog b) := by
  rw [← rmul_gexp, gexp_glog a ha a0, gexp_glog b hb b0]
set_option maxRecDepth 100000 in
theorem rmul_comm (a b : Nat) (ha : a < 256) (hb : b < 256) : rmul a b = rmul b a := by
  by_cases a0 : a = 0
  · rw [a0, rmul_zero_left, rmul_zero_right]
  · by_cases b0 : b = 0
    · rw [b0, rmul_zero_left, rmul_zero_right]
    · rw [rmul_log a b ha hb a0 b0, rmul_log b a hb ha b0 a0, Nat.add_comm]
set_option maxRecDepth 100000 in
theorem rmul_ne (a b : Nat) (ha : a < 256) (hb : b < 256) (a0 : a ≠ 0) (b0 : b ≠ 0) : rmul a b ≠ 0 := by
  rw [rmul_log a b ha hb a0 b0]; exact gexp_pos _
set_option maxRecDepth 100000 in
theorem glog_gexp_mod (k : Nat) : glog (gexp k) = k % 255 := by
  rw [← gexp_mod]; exact glog_gexp _ (Nat.mod_lt _ (by decide)) (gexp_pos _)
set_option maxRecDepth 100000 in
theorem rmul_assoc (a b c : Nat) (ha : a < 256) (hb : b < 256) (hc : c < 256) : rmul a (rmul b c) = rmul (rmul a b) c := by
  by_cases a0 : a = 0
  · rw [a0, rmul_zero_left, rmul_zero_left, rmul_zero_left]
  · by_cases b0 : b = 0
    · rw [b0, rmul_zero_left, rmul_zero_right, rmul_zero_left]
    · by_cases c0 : c = 0
      · rw [c0, rmul_zero_right, rmul_zero_right, rmul_zero_right]
      · rw [rmul_log b c hb hc b0 c0, rmul_log a b ha hb a0 b0]
        rw [rmul_log a _ ha (gexp_lt _) a0 (gexp_pos _), rmul_log _ c (gexp_lt _) hc (gexp_pos _) c0]
        rw [glog_gexp_mod, glog_gexp_mod]
        rw [← gexp_mod (glog a + _), ← gexp_mod (_ + glog c)]
        congr 1; omega
set_option maxRecDepth 100000 in
theorem rmul_inv (a : Nat) (ha : a < 256) (a0 : a ≠ 0) : rmul a (gexp (255 - glog a)) = 1 := by
  have h := glog_lt a ha a0
  rw [rmul_log a _ ha (gexp_lt _) a0 (gexp_pos _), glog_gexp_mod, ← gexp_mod]
  have : (glog a + (255 - glog a) % 255) % 255 = 0 := by omega
  rw [this]; rfl
set_option maxRecDepth 100000 in
theorem mulA_lt (a b k : Nat) (ha : a < 256) (hk : k ≤ 8) : mulA a b k < 65536 := by
  induction k with
  | zero => simp [mulA]
  | succ k ih =>
    have h1 := ih (by omega)
    have h2 : a <<< k < 65536 := by
      rw [Nat.shiftLeft_eq]
      have : 2 ^ k ≤ 2 ^ 7 := Nat.pow_le_pow_right (by decide) (by omega)
      calc a * 2 ^ k ≤ a * 2 ^ 7 := Nat.mul_le_mul_left _ this
        _ < 65536 := by omega
    simp only [mulA]
    split
    · exact Nat.xor_lt_two_pow (n := 16) h1 h2
    · exact h1
set_option maxRecDepth 100000 in
theorem redB_lt (n j : Nat) (hn : n < 65536) : redB n j < 65536 := by
  induction j with
  | zero => exact hn
  | succ j ih =>
    simp only [redB]
    split
    · refine Nat.xor_lt_two_pow (n := 16) ih ?_
      rw [Nat.shiftLeft_eq]
      have : 2 ^ (6 - j) ≤ 2 ^ 6 := Nat.pow_le_pow_right (by decide) (by omega)
      calc 285 * 2 ^ (6 - j) ≤ 285 * 2 ^ 6 := Nat.mul_le_mul_left _ this
        _ < 2 ^ 16 := by decide
    · exact ih
set_option maxRecDepth 100000 in
theorem mulA_yes (a b k : Nat) (h : (b / 2 ^ k) % 2 = 1) : mulA a b (k + 1) = mulA a b k ^^^ (a * 2 ^ k) := by
  simp only [mulA]; rw [Nat.shiftRight_eq_div_pow, if_pos h, Nat.shiftLeft_eq]
set_option maxRecDepth 100000 in
theorem mulA_no (a b k : Nat) (h : ¬ (b / 2 ^ k) % 2 = 1) : mulA a b (k + 1) = mulA a b k := by
  simp only [mulA]; rw [Nat.shiftRight_eq_div_pow, if_neg h]
set_option maxRecDepth 100000 in
theorem redB_yes (n j : Nat) (h : (redB n j / 2 ^ (14 - j)) % 2 = 1) : redB n (j + 1) = redB n j ^^^ (285 * 2 ^ (6 - j)) := by
  simp only [redB]; rw [Nat.shiftRight_eq_div_pow, if_pos h, Nat.shiftLeft_eq]
set_option maxRecDepth 100000 in
theorem redB_no (n j : Nat) (h : ¬ (redB n j / 2 ^ (14 - j)) % 2 = 1) : redB n (j + 1) = redB n j := by
  simp only [redB]; rw [Nat.shiftRight_eq_div_pow, if_neg h]
/-! ### the inverse and the power -/
def rinv (a : Nat) : Nat := if a = 0 then 0 else gexp (255 - glog a)
set_option maxRecDepth 100000 in
theorem rinv_lt (a : Nat) : rinv a < 256 := by
  unfold rinv
  split
  · decide
  · exact gexp_lt _
set_option maxRecDepth 100000 in
theorem rmul_rinv (a : Nat) (ha : a < 256) (a0 : a ≠ 0) : rmul a (rinv a) = 1 := by
  unfold rinv; rw [if_neg a0]; exact rmul_inv a ha a0
set_option maxRecDepth 100000 in
theorem rinv_uniq (a b : Nat) (ha : a < 256) (hb : b < 256) (h : rmul a b = 1) : b = rinv a := by
  have a0 : a ≠ 0 := by intro e; rw [e, rmul_zero_left] at h; cases h
  have e1 : rmul (rinv a) (rmul a b) = rinv a := by rw [h, rmul_one _ (rinv_lt a)]
  rw [rmul_assoc _ _ _ (rinv_lt a) ha hb, rmul_comm (rinv a) a (rinv_lt a) ha, rmul_rinv a ha a0, rmul_comm 1 b (by decide) hb, rmul_one b hb] at e1
  exact e1
def rpow (a : Nat) : Nat → Nat
  | 0 => 1
  | n + 1 => rmul (rpow a n) a
set_option maxRecDepth 100000 in
theorem rpow_lt (a n : Nat) : rpow a n < 256 := by
  cases n with
  | zero => exact (by decide : (1 : Nat) < 256)
  | succ n => exact rmul_lt _ _
set_option maxRecDepth 100000 in
theorem rpow_gexp (j n : Nat) : rpow (gexp j) n = gexp (j * n) := by
  induction n with
  | zero => rfl
  | succ n ih => simp only [rpow]; rw [ih, rmul_gexp, Nat.mul_succ]
set_option maxRecDepth 100000 in
theorem rpow_log (a n : Nat) (ha : a < 256) (a0 : a ≠ 0) : rpow a n = gexp (glog a * n) := by
  rw [← rpow_gexp, gexp_glog a ha a0]
set_option maxRecDepth 100000 in
theorem rinv_eq (a : Nat) (a0 : a ≠ 0) : rinv a = gexp (255 - glog a) := by unfold rinv; rw [if_neg a0]
set_option maxRecDepth 100000 in
theorem rpow_zero (a : Nat) : rpow a 0 = 1 := rfl
set_option maxRecDepth 100000 in
theorem rpow_succ (a n : Nat) : rpow a (n + 1) = rmul (rpow a n) a := rfl
/-- x to any whole power -/
def zexp (n : Int) : Nat := gexp (n % 255).toNat
set_option maxRecDepth 100000 in
theorem zexp_eq (n : Int) : zexp n = gexp (n % 255).toNat := rfl
set_option maxRecDepth 100000 in
theorem rmul_eq (a b : Nat) : rmul a b = redB (mulA a b 8) 7 % 256 := rfl
/-! ### sums of many -/
def xorl (l : List Nat) : Nat := l.foldl (· ^^^ ·) 0
set_option maxRecDepth 100000 in
theorem xorl_nil : xorl [] = 0 := rfl
set_option maxRecDepth 100000 in
theorem xorl_snoc (l : List Nat) (x : Nat) : xorl (l ++ [x]) = xorl l ^^^ x := by simp [xorl]
set_option maxRecDepth 100000 in
theorem xorl_take (l : List Nat) (k x : Nat) (h : l[k]? = some x) : xorl (l.take (k + 1)) = xorl (l.take k) ^^^ x := by
  rw [List.take_add_one, h]; exact xorl_snoc _ _
set_option maxRecDepth 100000 in
theorem xorl_lt (l : List Nat) (h : ∀ x ∈ l, x < 256) (k : Nat) : xorl (l.take k) < 256 := by
  induction k with
  | zero => simp [xorl]
  | succ k ih =>
    rcases hx : l[k]? with _ | x
    · rw [List.take_add_one, hx]; simpa using ih
    · rw [xorl_take l k x hx]; exact Nat.xor_lt_two_pow (n := 8) ih (h x (List.mem_of_getElem? hx))
set_option maxRecDepth 100000 in
theorem mulA_zero (a b : Nat) : mulA a b 0 = 0 := rfl
set_option maxRecDepth 100000 in
theorem redB_zero (n : Nat) : redB n 0 = n := rfl
end Go.Proofs.Ytmfagdbocidfjaa

/- The contracts of package gf: what New makes, and what each method computes over it. Conditions: the tables lie at the pointer as New makes them (IsGf). -/
namespace Go.Proofs.Ytmfagdbocidfjaa
open Go.RowKit

def gzero : Array Value := Array.replicate 510 (.int .u8 0) ++ Array.replicate 256 (.int .i64 0)
def gtbl : Nat → Array Value
  | 0 => gzero
  | k + 1 => (((gtbl k).setIfInBounds k (.int .u8 (gexp k))).setIfInBounds (k + 255) (.int .u8 (gexp k))).setIfInBounds (510 + gexp k) (.int .i64 k)
set_option maxRecDepth 100000 in
theorem zeroTables (w : World) : (zeroValue 121).run Try.prog w = .ok (.agg gzero) w := by kernel_rfl
set_option maxRecDepth 100000 in
theorem gtbl_size (k : Nat) : (gtbl k).size = 766 := by
  induction k with
  | zero => simp [gtbl, gzero]
  | succ k ih => simp [gtbl, ih]
set_option maxRecDepth 100000 in
theorem gtbl_exp (k i : Nat) (hk : k ≤ 255) (hi : i < k ∨ (255 ≤ i ∧ i < 255 + k)) : (gtbl k)[i]? = some (.int .u8 (gexp i)) := by
  induction k with
  | zero => omega
  | succ k ih =>
    have hs := gtbl_size k
    have hx := gexp_lt k
    simp only [gtbl]
    rw [Array.getElem?_setIfInBounds_ne (by omega)]
    by_cases h1 : k + 255 = i
    · subst h1
      rw [Array.getElem?_setIfInBounds_self_of_lt (by simp [hs]; omega), gexp_add255]
    · rw [Array.getElem?_setIfInBounds_ne h1]
      by_cases h2 : k = i
      · subst h2
        rw [Array.getElem?_setIfInBounds_self_of_lt (by omega)]
      · rw [Array.getElem?_setIfInBounds_ne h2]
        exact ih (by omega) (by omega)
set_option maxRecDepth 100000 in
theorem gtbl_log (k j : Nat) (hk : k ≤ 255) (hj : j < k) : (gtbl k)[510 + gexp j]? = some (.int .i64 j) := by
  induction k with
  | zero => omega
  | succ k ih =>
    have hs := gtbl_size k
    have hx := gexp_lt k
    have hy := gexp_lt j
    simp only [gtbl]
    by_cases h1 : j = k
    · subst h1
      rw [Array.getElem?_setIfInBounds_self_of_lt (by simp [hs]; omega)]
    · have hne : gexp k ≠ gexp j := fun e => h1 (gexp_inj _ _ (by omega) (by omega) e.symm)
      rw [Array.getElem?_setIfInBounds_ne (by omega), Array.getElem?_setIfInBounds_ne (by omega), Array.getElem?_setIfInBounds_ne (by omega)]
      exact ih (by omega) (by omega)
set_option maxRecDepth 100000 in
theorem gtbl_log0 (k : Nat) (hk : k ≤ 255) : (gtbl k)[510]? = some (.int .i64 0) := by
  induction k with
  | zero => simp [gtbl, gzero]
  | succ k ih =>
    have hx := gexp_pos k
    simp only [gtbl]
    rw [Array.getElem?_setIfInBounds_ne (by omega), Array.getElem?_setIfInBounds_ne (by omega), Array.getElem?_setIfInBounds_ne (by omega)]
    exact ih (by omega)

/-- At block b lie the tables as New makes them. -/
def IsGf (w : World) (b : Nat) : Prop := w.heap[b]? = some (.cells (gtbl 255) 121 (0, 0))
set_option maxRecDepth 100000 in
theorem IsGf.exp {w : World} {b : Nat} (h : IsGf w b) (i : Nat) (hi : i < 510) : w.cell? ⟨b, i, none⟩ = some (.int .u8 (gexp i)) := by
  rw [cell_of_block h]
  exact gtbl_exp 255 i (by omega) (by omega)
set_option maxRecDepth 100000 in
theorem IsGf.log {w : World} {b : Nat} (h : IsGf w b) (a : Nat) (ha : a < 256) (a0 : a ≠ 0) : w.cell? ⟨b, 510 + a, none⟩ = some (.int .i64 (glog a)) := by
  rw [cell_of_block h]
  have := gtbl_log 255 (glog a) (by omega) (glog_lt a ha a0)
  rw [gexp_glog a ha a0] at this
  exact this
set_option maxRecDepth 100000 in
theorem IsGf.log0 {w : World} {b : Nat} (h : IsGf w b) : w.cell? ⟨b, 510, none⟩ = some (.int .i64 0) := by
  rw [cell_of_block h]
  exact gtbl_log0 255 (by omega)
set_option maxRecDepth 100000 in
theorem IsGf.lt {w : World} {b : Nat} (h : IsGf w b) : b < w.heap.size := (Array.getElem?_eq_some_iff.1 h).1
set_option maxRecDepth 100000 in
theorem IsGf.drew {w : World} {b : Nat} (h : IsGf w b) : IsGf w.drew b := h
set_option maxRecDepth 100000 in
theorem IsGf.drewN {w : World} {b : Nat} (h : IsGf w b) (n : Nat) : IsGf (w.drewN n) b := h
set_option maxRecDepth 100000 in
theorem IsGf.below {w w' : World} {b B : Nat} (h : IsGf w b) (hb : Below B w w') (hB : b < B) : IsGf w' b := by
  unfold IsGf; rw [hb.block b hB]; exact h
set_option maxRecDepth 100000 in
theorem IsGf.made (w : World) (n : Nat) : IsGf ((w.alloc (.cells (gtbl 255) 121)).drewN n) w.heap.size := by
  show (w.heap.push _)[w.heap.size]? = _
  simp

set_option maxRecDepth 100000 in
theorem IsGf.alloc {w : World} {b : Nat} (h : IsGf w b) (o : Obj) : IsGf (w.alloc o) b :=
  (Below.heap_alloc w o b h.lt).trans h
set_option maxRecDepth 100000 in
theorem gstep_hi (k : Nat) (h : 255 < (gexp k : Int) * 2) : bits .xor .i64 ((gexp k : Int) * 2) 285 = (gexp (k + 1) : Nat) := by
  have := gexp_lt k
  have e := i64_xor_nat (gexp k * 2) 285 (by omega) (by omega)
  simp only [gexp, gstep]
  rw [if_pos (by omega), Nat.mul_comm 2]
  simpa using e
set_option maxRecDepth 100000 in
theorem gstep_lo (k : Nat) (h : (gexp k : Int) * 2 ≤ 255) : (gexp k : Int) * 2 = (gexp (k + 1) : Nat) := by
  simp only [gexp, gstep]
  rw [if_neg (by omega), Nat.mul_comm 2]
  simp
set_option maxRecDepth 100000 in
theorem gexp_zero : gexp 0 = 1 := rfl
set_option maxRecDepth 100000 in
theorem gtbl_zero : gtbl 0 = gzero := rfl
set_option maxRecDepth 100000 in
theorem gtbl_succ (k : Nat) : gtbl (k + 1) = (((gtbl k).setIfInBounds k (.int .u8 (gexp k))).setIfInBounds (k + 255) (.int .u8 (gexp k))).setIfInBounds (510 + gexp k) (.int .i64 k) := rfl
attribute [local irreducible] gexp gtbl glog rmul

set_option maxRecDepth 100000 in
set_option maxHeartbeats 400000 in
theorem gf_new (w : World) :
    Calls Try.prog 21 #[] w fun e w' => e = .returned (.pointer (some ⟨w.heap.size, 0, none⟩)) ∧ ∃ n, w' = (w.alloc (.cells (gtbl 255) 121)).drewN n := by
  have hz := zeroTables
  go_enter Try.func21, Try.ntmps21
  go_wp2
  go_loopw [2, 6] (fun v i wr => ∃ k n : Nat, k ≤ 255 ∧ i = .int .i64 k ∧ v = .int .i64 (gexp k : Nat) ∧ wr = (w.alloc (.cells (gtbl k) 121)).drewN n) (fun _ i _ => 255 - (intOf i).toNat)
  case atStart => exact ⟨0, 0, by omega, rfl, by rw [gexp_zero]; rfl, by rw [gtbl_zero]; rfl⟩
  case round =>
    obtain ⟨k, n, hk, rfl, rfl, rfl⟩ := hrel
    by_cases hlt : k < 255
    · have hx := gexp_lt k
      obtain ⟨v1, h1⟩ := arr_at (gtbl k) k 766 (gtbl_size k) (by omega)
      obtain ⟨v2, h2⟩ := arr_at (gtbl k) (k + 255) 766 (gtbl_size k) (by omega)
      obtain ⟨v3, h3⟩ := arr_at (((gtbl k).setIfInBounds k (.int .u8 (gexp k))).setIfInBounds (k + 255) (.int .u8 (gexp k))) (510 + gexp k) 766 (by simp [gtbl_size]) (by omega)
      go_wp2
      go_region
      rw [sc_drewN, sc_drewN]
      go_wp2
      all_goals
        try rw [sc_drewN]
        go_roundw
        case rel => exact ⟨k + 1, n + 1, by omega, by go_num, by first | rw [gstep_hi k (by assumption)] | rw [gstep_lo k (by assumption)], by rw [gtbl_succ]⟩
        case measure => simp [intOf]; omega
    · obtain rfl : k = 255 := by omega
      go_wp2
      go_ret
      exact ⟨rfl, n, rfl⟩

set_option maxRecDepth 100000 in
set_option maxHeartbeats 400000 in
theorem gf_mul (p a b : Nat) (w : World) (hg : IsGf w p) (ha : a < 256) (hb : b < 256) :
    Calls Try.prog 130 #[.pointer (some ⟨p, 0, none⟩), .int .u8 a, .int .u8 b] w fun e w' => e = .returned (.int .u8 (rmul a b : Nat)) ∧ ∃ n, w' = w.drewN n := by
  by_cases a0 : a = 0
  · subst a0
    rw [rmul_zero_left]
    go_enter Try.func130, Try.ntmps130
    go_wp2
    go_ret
    exact ⟨rfl, 0, rfl⟩
  · have e0 : ((a : Int) == 0) = false := by simp; exact a0
    by_cases b0 : b = 0
    · subst b0
      rw [rmul_zero_right]
      go_enter Try.func130, Try.ntmps130
      go_wp2
      go_ret
      exact ⟨rfl, 0, rfl⟩
    · have e1 : ((b : Int) == 0) = false := by simp; exact b0
      have la := glog_lt a ha a0
      have lb := glog_lt b hb b0
      have c1 := hg.log a ha a0
      have c2 := hg.log b hb b0
      have c3 := hg.exp (glog a + glog b) (by omega)
      have hr := hide (rmul_log a b ha hb a0 b0)
      clear hg
      go_enter Try.func130, Try.ntmps130
      go_wp2
      go_quiet (fail)
      go_wp2
      go_ret
      exact ⟨ret_int (by rw [hr.out]), _, rfl⟩
end Go.Proofs.Ytmfagdbocidfjaa

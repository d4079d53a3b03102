/- The field of 256 elements in plain numbers: powers of x, logarithms, the product bit by bit; that the two products are one; the field's laws. No program is in sight. -/
namespace Go.Proofs.Ytkcalgolanpjaaa

/-- one more power of x -/
def gstep (w : Nat) : Nat := if 2 * w > 255 then (2 * w) ^^^ 285 else 2 * w
def gexp : Nat → Nat
  | 0 => 1
  | k + 1 => gstep (gexp k)

theorem gstep_lt (w : Nat) (h : w < 256) : gstep w < 256 := by
  revert w; decide +kernel
theorem gexp_lt (k : Nat) : gexp k < 256 := by
  induction k with
  | zero => decide
  | succ k ih => exact gstep_lt _ ih

/-! ### linear functions of bits -/
theorem xor4 (a b c d : Nat) : (a ^^^ b) ^^^ (c ^^^ d) = (a ^^^ c) ^^^ (b ^^^ d) := by
  rw [Nat.xor_assoc, ← Nat.xor_assoc b, Nat.xor_comm b c, Nat.xor_assoc, Nat.xor_assoc]

theorem odd_xor (x y i : Nat) : ((x ^^^ y) >>> i) % 2 = ((x >>> i) % 2 + (y >>> i) % 2) % 2 := by
  have h : ∀ z : Nat, (z >>> i) % 2 = (z.testBit i).toNat := by
    intro z
    rw [Nat.testBit, Nat.and_comm, Nat.and_one_is_mod]
    rcases Nat.mod_two_eq_zero_or_one (z >>> i) with h | h <;> simp [h]
  rw [h, h, h, Nat.testBit_xor]
  cases x.testBit i <;> cases y.testBit i <;> rfl

def mulA (a b : Nat) : Nat → Nat
  | 0 => 0
  | i + 1 => if (b >>> i) % 2 = 1 then mulA a b i ^^^ (a <<< i) else mulA a b i
def redB (n : Nat) : Nat → Nat
  | 0 => n
  | j + 1 => if (redB n j >>> (14 - j)) % 2 = 1 then redB n j ^^^ (285 <<< (6 - j)) else redB n j
/-- the document's product -/
def rmul (a b : Nat) : Nat := redB (mulA a b 8) 7 % 256

theorem mulA_xor_right (a b c i : Nat) : mulA a (b ^^^ c) i = mulA a b i ^^^ mulA a c i := by
  induction i with
  | zero => simp [mulA]
  | succ i ih =>
    simp only [mulA, ih, odd_xor]
    rcases Nat.mod_two_eq_zero_or_one (b >>> i) with h | h <;> rcases Nat.mod_two_eq_zero_or_one (c >>> i) with k | k
    · simp [h, k]
    · simp [h, k, Nat.xor_assoc]
    · simp [h, k]; rw [Nat.xor_assoc, Nat.xor_assoc, Nat.xor_comm (mulA a c i)]
    · simp [h, k]; rw [xor4, Nat.xor_self, Nat.xor_zero]
theorem mulA_xor_left (a b c i : Nat) : mulA (a ^^^ b) c i = mulA a c i ^^^ mulA b c i := by
  induction i with
  | zero => simp [mulA]
  | succ i ih =>
    simp only [mulA, ih]
    rcases Nat.mod_two_eq_zero_or_one (c >>> i) with h | h
    · simp [h]
    · simp only [h, if_true]
      rw [Nat.shiftLeft_xor_distrib, xor4]
theorem redB_xor (x y j : Nat) : redB (x ^^^ y) j = redB x j ^^^ redB y j := by
  induction j with
  | zero => rfl
  | succ j ih =>
    simp only [redB, ih, odd_xor]
    rcases Nat.mod_two_eq_zero_or_one (redB x j >>> (14 - j)) with h | h <;> rcases Nat.mod_two_eq_zero_or_one (redB y j >>> (14 - j)) with k | k
    · simp [h, k]
    · simp [h, k, Nat.xor_assoc]
    · simp [h, k]; rw [Nat.xor_assoc, Nat.xor_assoc, Nat.xor_comm (redB y j)]
    · simp [h, k]; rw [xor4, Nat.xor_self, Nat.xor_zero]
theorem rmul_xor_right (a b c : Nat) : rmul a (b ^^^ c) = rmul a b ^^^ rmul a c := by
  unfold rmul
  rw [mulA_xor_right, redB_xor]
  exact Nat.xor_mod_two_pow (n := 8)
theorem rmul_xor_left (a b c : Nat) : rmul (a ^^^ b) c = rmul a c ^^^ rmul b c := by
  unfold rmul
  rw [mulA_xor_left, redB_xor]
  exact Nat.xor_mod_two_pow (n := 8)
theorem rmul_lt (a b : Nat) : rmul a b < 256 := Nat.mod_lt _ (by decide)

/-- Two functions that turn sums into sums and agree at 1, 2, 4, .., 128 agree below 256. -/
theorem lin_ext (f g : Nat → Nat) (hf : ∀ x y, x < 256 → y < 256 → f (x ^^^ y) = f x ^^^ f y) (hg : ∀ x y, x < 256 → y < 256 → g (x ^^^ y) = g x ^^^ g y)
    (h : ∀ i, i < 8 → f (2 ^ i) = g (2 ^ i)) : ∀ n x, n ≤ 8 → x < 2 ^ n → f x = g x := by
  have f0 : f 0 = 0 := by have := hf 0 0 (by decide) (by decide); simpa using this
  have g0 : g 0 = 0 := by have := hg 0 0 (by decide) (by decide); simpa using this
  intro n
  induction n with
  | zero => intro x _ hx; obtain rfl : x = 0 := by simpa using hx
            rw [f0, g0]
  | succ n ih =>
    intro x hn hx
    by_cases hlt : x < 2 ^ n
    · exact ih x (by omega) hlt
    · have hp : 2 ^ (n + 1) = 2 * 2 ^ n := by rw [Nat.pow_succ, Nat.mul_comm]
      have h256 : 2 ^ (n + 1) ≤ 2 ^ 8 := Nat.pow_le_pow_right (by decide) (by omega)
      have h256' : (2 : Nat) ^ 8 = 256 := rfl
      obtain ⟨y, rfl⟩ : ∃ y, x = 2 ^ n + y := ⟨x - 2 ^ n, by omega⟩
      have hy : y < 2 ^ n := by omega
      have hsum : 2 ^ n + y = 2 ^ n ^^^ y := by
        have h1 := Nat.two_pow_add_eq_or_of_lt hy 1
        simp only [Nat.mul_one] at h1
        rw [h1]
        apply Nat.eq_of_testBit_eq
        intro j
        rw [Nat.testBit_or, Nat.testBit_xor, Nat.testBit_two_pow]
        by_cases e : n = j
        · subst e; rw [Nat.testBit_lt_two_pow hy]; simp
        · simp [e]
      rw [hsum, hf _ _ (by omega) (by omega), hg _ _ (by omega) (by omega), h n (by omega), ih y (by omega) hy]

theorem gstep_lin (x y : Nat) (hx : x < 256) (hy : y < 256) : gstep (x ^^^ y) = gstep x ^^^ gstep y := by
  have key : ∀ w, w < 256 → gstep w = (2 * w) ^^^ (if (w >>> 7) % 2 = 1 then 285 else 0) := by decide +kernel
  have hxy : x ^^^ y < 256 := Nat.xor_lt_two_pow (n := 8) hx hy
  rw [key _ hx, key _ hy, key _ hxy, odd_xor]
  have hd : 2 * (x ^^^ y) = (2 * x) ^^^ (2 * y) := by
    have := Nat.shiftLeft_xor_distrib (a := x) (b := y) (i := 1)
    simpa [Nat.shiftLeft_eq, Nat.mul_comm] using this
  rw [hd, xor4]
  congr 1
  rcases Nat.mod_two_eq_zero_or_one (x >>> 7) with h | h <;> rcases Nat.mod_two_eq_zero_or_one (y >>> 7) with k | k <;> simp [h, k]

theorem rmul_gstep (a b : Nat) (ha : a < 256) (hb : b < 256) : rmul a (gstep b) = gstep (rmul a b) := by
  have key : ∀ i, i < 8 → ∀ j, j < 8 → rmul (2 ^ j) (gstep (2 ^ i)) = gstep (rmul (2 ^ j) (2 ^ i)) := by decide +kernel
  refine lin_ext (fun b => rmul a (gstep b)) (fun b => gstep (rmul a b)) ?_ ?_ ?_ 8 b (by decide) hb
  · intro x y hx hy; simp only [gstep_lin x y hx hy, rmul_xor_right]
  · intro x y hx hy; simp only [rmul_xor_right]; exact gstep_lin _ _ (rmul_lt _ _) (rmul_lt _ _)
  · intro i hi
    refine lin_ext (fun a => rmul a (gstep (2 ^ i))) (fun a => gstep (rmul a (2 ^ i))) ?_ ?_ ?_ 8 a (by decide) ha
    · intro x y hx hy; simp only [rmul_xor_left]
    · intro x y hx hy; simp only [rmul_xor_left]; exact gstep_lin _ _ (rmul_lt _ _) (rmul_lt _ _)
    · intro j hj; exact key i hi j hj
theorem rmul_one (a : Nat) (ha : a < 256) : rmul a 1 = a := by
  revert a; decide +kernel
theorem rmul_gexp (j k : Nat) : rmul (gexp j) (gexp k) = gexp (j + k) := by
  induction k with
  | zero => exact rmul_one _ (gexp_lt j)
  | succ k ih =>
    show rmul (gexp j) (gstep (gexp k)) = gstep (gexp (j + k))
    rw [rmul_gstep _ _ (gexp_lt j) (gexp_lt k), ih]
theorem rmul_zero_left (b : Nat) : rmul 0 b = 0 := by
  have := rmul_xor_left 0 0 b
  simpa using this
theorem rmul_zero_right (a : Nat) : rmul a 0 = 0 := by
  have := rmul_xor_right a 0 0
  simpa using this

/-! ### the logarithm -/
def expList : Nat → Nat → List Nat
  | 0, _ => []
  | n + 1, w => w :: expList n (gstep w)
def expL : List Nat := expList 255 1
theorem expList_length (n w : Nat) : (expList n w).length = n := by
  induction n generalizing w with
  | zero => rfl
  | succ n ih => simp [expList, ih]
def gpow (k w : Nat) : Nat := Nat.rec w (fun _ x => gstep x) k
theorem gpow_step (k w : Nat) : gpow k (gstep w) = gstep (gpow k w) := by
  induction k with
  | zero => rfl
  | succ k ih => show gstep (gpow k (gstep w)) = _; rw [ih]; rfl
theorem gexp_gpow (k : Nat) : gexp k = gpow k 1 := by
  induction k with
  | zero => rfl
  | succ k ih => show gstep (gexp k) = gstep (gpow k 1); rw [ih]
theorem expList_get (n w k : Nat) (h : k < n) : (expList n w)[k]? = some (gpow k w) := by
  induction n generalizing w k with
  | zero => omega
  | succ n ih =>
    cases k with
    | zero => rfl
    | succ k =>
      show (expList n (gstep w))[k]? = _
      rw [ih _ _ (by omega), gpow_step]; rfl
theorem expL_get (k : Nat) (h : k < 255) : expL[k]? = some (gexp k) := by
  rw [gexp_gpow]; exact expList_get 255 1 k h
theorem expL_length : expL.length = 255 := expList_length _ _
theorem expL_nodup : expL.Nodup := by decide +kernel
theorem expL_all : ∀ a, a < 256 → a ≠ 0 → a ∈ expL := by
  have h : (List.range 256).all (fun a => a == 0 || expL.contains a) = true := by decide +kernel
  intro a ha h0
  have := List.all_eq_true.1 h a (by simpa using ha)
  simpa [h0] using this
def glog (a : Nat) : Nat := expL.idxOf a
theorem glog_lt (a : Nat) (ha : a < 256) (h0 : a ≠ 0) : glog a < 255 := by
  have := List.idxOf_lt_length_of_mem (expL_all a ha h0)
  rwa [expL_length] at this
theorem gexp_glog (a : Nat) (ha : a < 256) (h0 : a ≠ 0) : gexp (glog a) = a := by
  have hlt := List.idxOf_lt_length_of_mem (expL_all a ha h0)
  have h1 := expL_get (glog a) (glog_lt a ha h0)
  have h2 : expL[expL.idxOf a]? = some a := by
    rw [List.getElem?_eq_getElem hlt, List.getElem_idxOf hlt]
  have h3 : some (gexp (glog a)) = some a := h1.symm.trans h2
  simpa using h3
theorem gexp_inj (j k : Nat) (hj : j < 255) (hk : k < 255) (h : gexp j = gexp k) : j = k := by
  have h1 := expL_get j hj
  have h2 := expL_get k hk
  have hj' : j < expL.length := by rw [expL_length]; exact hj
  have hk' : k < expL.length := by rw [expL_length]; exact hk
  rw [List.getElem?_eq_getElem hj'] at h1
  rw [List.getElem?_eq_getElem hk'] at h2
  have : expL[j] = expL[k] := by
    simp only [Option.some.injEq] at h1 h2
    rw [h1, h2, h]
  exact (List.getElem_inj expL_nodup).1 this
theorem glog_gexp (k : Nat) (hk : k < 255) (h0 : gexp k ≠ 0) : glog (gexp k) = k :=
  gexp_inj _ _ (glog_lt _ (gexp_lt k) h0) hk (gexp_glog _ (gexp_lt k) h0)
theorem gexp_pos (k : Nat) : gexp k ≠ 0 := by
  have key : ∀ w, w < 256 → w ≠ 0 → gstep w ≠ 0 := by decide +kernel
  induction k with
  | zero => decide
  | succ k ih => exact key _ (gexp_lt k) ih
theorem gexp_255 : gexp 255 = 1 := by decide +kernel
theorem gexp_add255 (k : Nat) : gexp (k + 255) = gexp k := by
  induction k with
  | zero => exact gexp_255
  | succ k ih =>
    have : k + 1 + 255 = (k + 255) + 1 := by omega
    rw [this]
    show gstep (gexp (k + 255)) = gstep (gexp k)
    rw [ih]
theorem gexp_mod (k : Nat) : gexp (k % 255) = gexp k := by
  have : ∀ q r : Nat, gexp (r + 255 * q) = gexp r := by
    intro q
    induction q with
    | zero => intro r; rfl
    | succ q ih => intro r; rw [show r + 255 * (q + 1) = (r + 255 * q) + 255 by omega, gexp_add255, ih]
  conv => rhs; rw [← Nat.mod_add_div k 255]
  rw [this]

/-! ### the field's laws -/
theorem rmul_log (a b : Nat) (ha : a < 256) (hb : b < 256) (a0 : a ≠ 0) (b0 : b ≠ 0) : rmul a b = gexp (glog a + glog b) := by
  rw [← rmul_gexp, gexp_glog a ha a0, gexp_glog b hb b0]
theorem rmul_comm (a b : Nat) (ha : a < 256) (hb : b < 256) : rmul a b = rmul b a := by
  by_cases a0 : a = 0
  · rw [a0, rmul_zero_left, rmul_zero_right]
  · by_cases b0 : b = 0
    · rw [b0, rmul_zero_left, rmul_zero_right]
    · rw [rmul_log a b ha hb a0 b0, rmul_log b a hb ha b0 a0, Nat.add_comm]
theorem rmul_ne (a b : Nat) (ha : a < 256) (hb : b < 256) (a0 : a ≠ 0) (b0 : b ≠ 0) : rmul a b ≠ 0 := by
  rw [rmul_log a b ha hb a0 b0]; exact gexp_pos _
theorem glog_gexp_mod (k : Nat) : glog (gexp k) = k % 255 := by
  rw [← gexp_mod]; exact glog_gexp _ (Nat.mod_lt _ (by decide)) (gexp_pos _)
theorem rmul_assoc (a b c : Nat) (ha : a < 256) (hb : b < 256) (hc : c < 256) : rmul a (rmul b c) = rmul (rmul a b) c := by
  by_cases a0 : a = 0
  · rw [a0, rmul_zero_left, rmul_zero_left, rmul_zero_left]
  · by_cases b0 : b = 0
    · rw [b0, rmul_zero_left, rmul_zero_right, rmul_zero_left]
    · by_cases c0 : c = 0
      · rw [c0, rmul_zero_right, rmul_zero_right, rmul_zero_right]
      · rw [rmul_log b c hb hc b0 c0, rmul_log a b ha hb a0 b0]
        rw [rmul_log a _ ha (gexp_lt _) a0 (gexp_pos _), rmul_log _ c (gexp_lt _) hc (gexp_pos _) c0]
        rw [glog_gexp_mod, glog_gexp_mod]
        rw [← gexp_mod (glog a + _), ← gexp_mod (_ + glog c)]
        congr 1; omega
theorem rmul_inv (a : Nat) (ha : a < 256) (a0 : a ≠ 0) : rmul a (gexp (255 - glog a)) = 1 := by
  have h := glog_lt a ha a0
  rw [rmul_log a _ ha (gexp_lt _) a0 (gexp_pos _), glog_gexp_mod, ← gexp_mod]
  have : (glog a + (255 - glog a) % 255) % 255 = 0 := by omega
  rw [this]; rfl
theorem mulA_lt (a b k : Nat) (ha : a < 256) (hk : k ≤ 8) : mulA a b k < 65536 := by
  induction k with
  | zero => simp [mulA]
  | succ k ih =>
    have h1 := ih (by omega)
    have h2 : a <<< k < 65536 := by
      rw [Nat.shiftLeft_eq]
      have : 2 ^ k ≤ 2 ^ 7 := Nat.pow_le_pow_right (by decide) (by omega)
      calc a * 2 ^ k ≤ a * 2 ^ 7 := Nat.mul_le_mul_left _ this
        _ < 65536 := by omega
    simp only [mulA]
    split
    · exact Nat.xor_lt_two_pow (n := 16) h1 h2
    · exact h1
theorem redB_lt (n j : Nat) (hn : n < 65536) : redB n j < 65536 := by
  induction j with
  | zero => exact hn
  | succ j ih =>
    simp only [redB]
    split
    · refine Nat.xor_lt_two_pow (n := 16) ih ?_
      rw [Nat.shiftLeft_eq]
      have : 2 ^ (6 - j) ≤ 2 ^ 6 := Nat.pow_le_pow_right (by decide) (by omega)
      calc 285 * 2 ^ (6 - j) ≤ 285 * 2 ^ 6 := Nat.mul_le_mul_left _ this
        _ < 2 ^ 16 := by decide
    · exact ih
theorem mulA_yes (a b k : Nat) (h : (b / 2 ^ k) % 2 = 1) : mulA a b (k + 1) = mulA a b k ^^^ (a * 2 ^ k) := by
  simp only [mulA]; rw [Nat.shiftRight_eq_div_pow, if_pos h, Nat.shiftLeft_eq]
theorem mulA_no (a b k : Nat) (h : ¬ (b / 2 ^ k) % 2 = 1) : mulA a b (k + 1) = mulA a b k := by
  simp only [mulA]; rw [Nat.shiftRight_eq_div_pow, if_neg h]
theorem redB_yes (n j : Nat) (h : (redB n j / 2 ^ (14 - j)) % 2 = 1) : redB n (j + 1) = redB n j ^^^ (285 * 2 ^ (6 - j)) := by
  simp only [redB]; rw [Nat.shiftRight_eq_div_pow, if_pos h, Nat.shiftLeft_eq]
theorem redB_no (n j : Nat) (h : ¬ (redB n j / 2 ^ (14 - j)) % 2 = 1) : redB n (j + 1) = redB n j := by
  simp only [redB]; rw [Nat.shiftRight_eq_div_pow, if_neg h]
/-! ### the inverse and the power -/
def rinv (a : Nat) : Nat := if a = 0 then 0 else gexp (255 - glog a)
theorem rinv_lt (a : Nat) : rinv a < 256 := by
  unfold rinv
  split
  · decide
  · exact gexp_lt _
theorem rmul_rinv (a : Nat) (ha : a < 256) (a0 : a ≠ 0) : rmul a (rinv a) = 1 := by
  unfold rinv; rw [if_neg a0]; exact rmul_inv a ha a0
theorem rinv_uniq (a b : Nat) (ha : a < 256) (hb : b < 256) (h : rmul a b = 1) : b = rinv a := by
  have a0 : a ≠ 0 := by intro e; rw [e, rmul_zero_left] at h; cases h
  have e1 : rmul (rinv a) (rmul a b) = rinv a := by rw [h, rmul_one _ (rinv_lt a)]
  rw [rmul_assoc _ _ _ (rinv_lt a) ha hb, rmul_comm (rinv a) a (rinv_lt a) ha, rmul_rinv a ha a0, rmul_comm 1 b (by decide) hb, rmul_one b hb] at e1
  exact e1
def rpow (a : Nat) : Nat → Nat
  | 0 => 1
  | n + 1 => rmul (rpow a n) a
theorem rpow_lt (a n : Nat) : rpow a n < 256 := by
  cases n with
  | zero => exact (by decide : (1 : Nat) < 256)
  | succ n => exact rmul_lt _ _
theorem rpow_gexp (j n : Nat) : rpow (gexp j) n = gexp (j * n) := by
  induction n with
  | zero => rfl
  | succ n ih => simp only [rpow]; rw [ih, rmul_gexp, Nat.mul_succ]
theorem rpow_log (a n : Nat) (ha : a < 256) (a0 : a ≠ 0) : rpow a n = gexp (glog a * n) := by
  rw [← rpow_gexp, gexp_glog a ha a0]
theorem rinv_eq (a : Nat) (a0 : a ≠ 0) : rinv a = gexp (255 - glog a) := by unfold rinv; rw [if_neg a0]
theorem rpow_zero (a : Nat) : rpow a 0 = 1 := rfl
theorem rpow_succ (a n : Nat) : rpow a (n + 1) = rmul (rpow a n) a := rfl
/-- x to any whole power -/
def zexp (n : Int) : Nat := gexp (n % 255).toNat
theorem zexp_eq (n : Int) : zexp n = gexp (n % 255).toNat := rfl
theorem rmul_eq (a b : Nat) : rmul a b = redB (mulA a b 8) 7 % 256 := rfl
/-! ### sums of many -/
def xorl (l : List Nat) : Nat := l.foldl (· ^^^ ·) 0
theorem xorl_nil : xorl [] = 0 := rfl
theorem xorl_snoc (l : List Nat) (x : Nat) : xorl (l ++ [x]) = xorl l ^^^ x := by simp [xorl]
theorem xorl_take (l : List Nat) (k x : Nat) (h : l[k]? = some x) : xorl (l.take (k + 1)) = xorl (l.take k) ^^^ x := by
  rw [List.take_add_one, h]; exact xorl_snoc _ _
theorem xorl_lt (l : List Nat) (h : ∀ x ∈ l, x < 256) (k : Nat) : xorl (l.take k) < 256 := by
  induction k with
  | zero => simp [xorl]
  | succ k ih =>
    rcases hx : l[k]? with _ | x
    · rw [List.take_add_one, hx]; simpa using ih
    · rw [xorl_take l k x hx]; exact Nat.xor_lt_two_pow (n := 8) ih (h x (List.mem_of_getElem? hx))
theorem mulA_zero (a b : Nat) : mulA a b 0 = 0 := rfl
theorem redB_zero (n : Nat) : redB n 0 = n := rfl
end Go.Proofs.Ytkcalgolanpjaaa

/- Parting a rate by weights: the plain law (what is left over is no more than how many have a weight), and the contract of package pacer's Share where all is right. -/
import Derived.Test.YtchpiiccdoejdaaPacer4
import Derived.Laws.OwnMore
import Derived.Laws.MakeOwn
namespace Go.Proofs.Ytchpiiccdoejdaa
open Go.RowKit
def smF (f : Nat → Int) : Nat → Int
  | 0 => 0
  | k + 1 => smF f k + f k
def ctF (f : Nat → Int) : Nat → Int
  | 0 => 0
  | k + 1 => ctF f k + (if 0 < f k then 1 else 0)
def shB (R S : Int) (f : Nat → Int) (i : Nat) : Int := R * f i / S
def shL (R S : Int) (f : Nat → Int) (n : Nat) : Int := R - smF (shB R S f) n
def shV (R S : Int) (f : Nat → Int) (n i : Nat) : Int := shB R S f i + (if 0 < f i ∧ ctF f i < shL R S f n then 1 else 0)
def ltK (R S : Int) (f : Nat → Int) (n k : Nat) : Int := if ctF f k ≤ shL R S f n then shL R S f n - ctF f k else 0
def mkL (n : Nat) (h : Nat → Int) : List Int := (List.range n).map h
theorem mkL_length (n : Nat) (h : Nat → Int) : (mkL n h).length = n := by simp [mkL]
theorem mkL_get (n : Nat) (h : Nat → Int) (i : Nat) (hi : i < n) : (mkL n h)[i]? = some (h i) := by simp [mkL, hi]
theorem mkL_congr (n : Nat) (h g : Nat → Int) (e : ∀ j, j < n → h j = g j) : mkL n h = mkL n g := by
  unfold mkL; exact List.map_congr_left fun j hj => e j (by simpa using hj)
theorem mkL_set (n : Nat) (h : Nat → Int) (i : Nat) (x : Int) : (mkL n h).set i x = mkL n (fun j => if j = i then x else h j) := by
  apply List.ext_getElem?
  intro j
  rw [List.getElem?_set]
  by_cases hj : j < n
  · rw [mkL_get _ _ _ hj, mkL_get _ _ _ hj, mkL_length]
    by_cases e : i = j
    · subst e; simp [hj]
    · have e2 : ¬ j = i := fun h => e h.symm
      simp [e, e2]
  · have e1 : (mkL n h)[j]? = none := List.getElem?_eq_none (by rw [mkL_length]; omega)
    have e2 : (mkL n (fun j => if j = i then x else h j))[j]? = none := List.getElem?_eq_none (by rw [mkL_length]; omega)
    rw [e1, e2, mkL_length]
    by_cases e : i = j
    · subst e; simp [hj]
    · simp [e]
theorem mkL_zero (n : Nat) : mkL n (fun _ => 0) = List.replicate n 0 := by
  apply List.ext_getElem?
  intro j
  by_cases hj : j < n
  · rw [mkL_get _ _ _ hj]; simp [hj]
  · rw [List.getElem?_eq_none (by rw [mkL_length]; omega), List.getElem?_eq_none (by simp; omega)]
theorem ctF_nonneg (f : Nat → Int) (k : Nat) : 0 ≤ ctF f k := by
  induction k with
  | zero => exact Int.le_refl 0
  | succ k ih => simp only [ctF]; split <;> omega
theorem ctF_mono (f : Nat → Int) (k j : Nat) (h : k ≤ j) : ctF f k ≤ ctF f j := by
  induction j with
  | zero => obtain rfl : k = 0 := by omega
            exact Int.le_refl _
  | succ j ih =>
    by_cases e : k = j + 1
    · subst e; exact Int.le_refl _
    · have := ih (by omega)
      simp only [ctF]; split <;> omega
theorem smF_bd (f : Nat → Int) (n : Nat) (hf : ∀ i, i < n → 0 ≤ f i ∧ f i ≤ 65536) (k : Nat) (hk : k ≤ n) : 0 ≤ smF f k ∧ smF f k ≤ 65536 * (k : Int) := by
  induction k with
  | zero => exact ⟨Int.le_refl 0, by simp [smF]⟩
  | succ k ih =>
    have h1 := ih (by omega)
    have h2 := hf k (by omega)
    simp only [smF]
    omega
theorem smF_mono (f : Nat → Int) (n : Nat) (hf : ∀ i, i < n → 0 ≤ f i) (j : Nat) (hj : j ≤ n) (k : Nat) (h : k ≤ j) : smF f k ≤ smF f j := by
  induction j with
  | zero => obtain rfl : k = 0 := by omega
            exact Int.le_refl _
  | succ j ih =>
    by_cases e : k = j + 1
    · subst e; exact Int.le_refl _
    · have := ih (by omega) (by omega)
      have := hf j (by omega)
      simp only [smF]; omega
/-- one share: its product lies between -/
theorem shB_prop (R S : Int) (f : Nat → Int) (i : Nat) (hR : 0 ≤ R) (hS : 0 < S) (h0 : 0 ≤ f i) : 0 ≤ shB R S f i ∧ shB R S f i * S ≤ R * f i ∧ R * f i ≤ shB R S f i * S + (S - 1) * (if 0 < f i then 1 else 0) := by
  have e := Int.mul_ediv_add_emod (R * f i) S
  have m0 := Int.emod_nonneg (R * f i) (show S ≠ 0 by omega)
  have m1 := Int.emod_lt_of_pos (R * f i) hS
  have p := Int.mul_nonneg hR h0
  unfold shB
  rw [Int.mul_comm] at e
  refine ⟨Int.ediv_nonneg p (by omega), by omega, ?_⟩
  by_cases hz : 0 < f i
  · rw [if_pos hz]; omega
  · have hz0 : f i = 0 := by omega
    rw [if_neg hz, hz0]; simp
theorem smB_prop (R S : Int) (f : Nat → Int) (n : Nat) (hR : 0 ≤ R) (hS : 0 < S) (hf : ∀ i, i < n → 0 ≤ f i) (k : Nat) (hk : k ≤ n) :
    0 ≤ smF (shB R S f) k ∧ smF (shB R S f) k * S ≤ R * smF f k ∧ R * smF f k ≤ smF (shB R S f) k * S + (S - 1) * ctF f k := by
  induction k with
  | zero => simp [smF, ctF]
  | succ k ih =>
    obtain ⟨a, b, c⟩ := ih (by omega)
    obtain ⟨d, e, g⟩ := shB_prop R S f k hR hS (hf k (by omega))
    simp only [smF, ctF]
    rw [Int.add_mul, Int.mul_add, Int.mul_add]
    omega
theorem shL_bd (R : Int) (f : Nat → Int) (n : Nat) (hR : 0 ≤ R) (hS : 0 < smF f n) (hf : ∀ i, i < n → 0 ≤ f i) : 0 ≤ shL R (smF f n) f n ∧ shL R (smF f n) f n ≤ ctF f n := by
  obtain ⟨a, b, c⟩ := smB_prop R (smF f n) f n hR hS hf n (Nat.le_refl _)
  have hc := ctF_nonneg f n
  unfold shL
  generalize smF f n = S at *
  generalize smF (shB R S f) n = B at *
  generalize ctF f n = C at *
  constructor
  · have := Int.le_of_mul_le_mul_right b hS; omega
  · have h : (R - B) * S ≤ C * S := by
      rw [Int.sub_mul, Int.mul_comm C S]
      rw [Int.sub_mul, Int.one_mul] at c
      omega
    exact Int.le_of_mul_le_mul_right h hS
theorem smB_le (R : Int) (f : Nat → Int) (n : Nat) (hR : 0 ≤ R) (hS : 0 < smF f n) (hf : ∀ i, i < n → 0 ≤ f i) (k : Nat) (hk : k ≤ n) : 0 ≤ smF (shB R (smF f n) f) k ∧ smF (shB R (smF f n) f) k ≤ R := by
  obtain ⟨a, b, _⟩ := smB_prop R (smF f n) f n hR hS hf k hk
  refine ⟨a, ?_⟩
  have h := smF_mono f n hf n (Nat.le_refl _) k hk
  have h2 := Int.mul_le_mul_of_nonneg_left h hR
  exact Int.le_of_mul_le_mul_right (Int.le_trans b h2) hS
theorem ltK_zero (R S : Int) (f : Nat → Int) (n : Nat) (h : 0 ≤ shL R S f n) : ltK R S f n 0 = shL R S f n := by simp [ltK, ctF, h]
theorem ltK_pos (R S : Int) (f : Nat → Int) (n k : Nat) (h : 0 < ltK R S f n k) : ctF f k < shL R S f n := by
  unfold ltK at h; split at h <;> omega
theorem ltK_nonneg (R S : Int) (f : Nat → Int) (n k : Nat) : 0 ≤ ltK R S f n k := by unfold ltK; split <;> omega
theorem ltK_le (R S : Int) (f : Nat → Int) (n k : Nat) (h : 0 ≤ shL R S f n) : ltK R S f n k ≤ shL R S f n := by
  have := ctF_nonneg f k
  unfold ltK; split <;> omega
theorem ltK_end (R S : Int) (f : Nat → Int) (n : Nat) (h : shL R S f n ≤ ctF f n) : ltK R S f n n = 0 := by unfold ltK; split <;> omega
theorem ltK_some (R S : Int) (f : Nat → Int) (n k : Nat) (h : 0 < ltK R S f n k) (hp : 0 < f k) : ltK R S f n (k + 1) = ltK R S f n k - 1 := by
  have := ltK_pos R S f n k h
  unfold ltK
  simp only [ctF, if_pos hp]
  rw [if_pos (by omega), if_pos (by omega)]
  omega
theorem ltK_none (R S : Int) (f : Nat → Int) (n k : Nat) (hp : ¬ 0 < f k) : ltK R S f n (k + 1) = ltK R S f n k := by
  unfold ltK
  simp only [ctF, if_neg hp, Int.add_zero]
/-- what lies in the shares behind k of them are looked at -/
def shT (R S : Int) (f : Nat → Int) (n k : Nat) (j : Nat) : Int := if j < k then shV R S f n j else shB R S f j
theorem shT_zero (R S : Int) (f : Nat → Int) (n : Nat) : mkL n (shT R S f n 0) = mkL n (shB R S f) := mkL_congr _ _ _ fun j _ => by simp [shT]
theorem shT_some (R S : Int) (f : Nat → Int) (n k : Nat) (hl : 0 < ltK R S f n k) (hp : 0 < f k) : (mkL n (shT R S f n k)).set k (shB R S f k + 1) = mkL n (shT R S f n (k + 1)) := by
  rw [mkL_set]
  refine mkL_congr _ _ _ fun j _ => ?_
  have hc := ltK_pos R S f n k hl
  unfold shT
  by_cases e : j = k
  · subst e
    rw [if_pos rfl, if_pos (by omega)]
    unfold shV
    rw [if_pos ⟨hp, hc⟩]
  · rw [if_neg e]
    by_cases h : j < k
    · rw [if_pos h, if_pos (by omega)]
    · rw [if_neg h, if_neg (by omega)]
theorem shT_none (R S : Int) (f : Nat → Int) (n k : Nat) (hp : ¬ 0 < f k) : mkL n (shT R S f n k) = mkL n (shT R S f n (k + 1)) := by
  refine mkL_congr _ _ _ fun j _ => ?_
  unfold shT
  by_cases e : j = k
  · subst e
    rw [if_neg (by omega), if_pos (by omega)]
    unfold shV
    rw [if_neg (fun h => hp h.1), Int.add_zero]
  · by_cases h : j < k
    · rw [if_pos h, if_pos (by omega)]
    · rw [if_neg h, if_neg (by omega)]
theorem shT_end (R S : Int) (f : Nat → Int) (n k : Nat) (hl : ltK R S f n k ≤ 0) : mkL n (shT R S f n k) = mkL n (shV R S f n) := by
  refine mkL_congr _ _ _ fun j _ => ?_
  unfold shT
  by_cases h : j < k
  · rw [if_pos h]
  · rw [if_neg h]
    have hm := ctF_mono f k j (by omega)
    have hz : shL R S f n ≤ ctF f k := by
      unfold ltK at hl; split at hl <;> omega
    unfold shV
    rw [if_neg (fun h => by omega), Int.add_zero]
/-- the rows, behind k shares are reckoned -/
def shR (R S : Int) (f : Nat → Int) (k : Nat) (j : Nat) : Int := if j < k then shB R S f j else 0
theorem shR_zero (R S : Int) (f : Nat → Int) (n : Nat) : mkL n (shR R S f 0) = List.replicate n 0 := by
  rw [← mkL_zero]; exact mkL_congr _ _ _ fun j _ => by simp [shR]
theorem shR_next (R S : Int) (f : Nat → Int) (n k : Nat) : (mkL n (shR R S f k)).set k (shB R S f k) = mkL n (shR R S f (k + 1)) := by
  rw [mkL_set]
  refine mkL_congr _ _ _ fun j _ => ?_
  unfold shR
  by_cases e : j = k
  · subst e; rw [if_pos rfl, if_pos (by omega)]
  · rw [if_neg e]
    by_cases h : j < k
    · rw [if_pos h, if_pos (by omega)]
    · rw [if_neg h, if_neg (by omega)]
theorem shR_end (R S : Int) (f : Nat → Int) (n : Nat) : mkL n (shR R S f n) = mkL n (shB R S f) := mkL_congr _ _ _ fun j hj => by unfold shR; rw [if_pos hj]
/-- numbers as cells -/
def rowZ (l : List Int) : List Value := l.map fun x => .int .i64 x
theorem rowZ_length (l : List Int) : (rowZ l).length = l.length := by simp [rowZ]
theorem rowZ_get (l : List Int) (i : Nat) : (rowZ l)[i]? = (l[i]?).map fun x => Value.int .i64 x := by simp [rowZ]
theorem rowZ_set (l : List Int) (i : Nat) (x : Int) : (rowZ l).set i (.int .i64 x) = rowZ (l.set i x) := by simp [rowZ, List.map_set]
theorem own_slZ {w : World} {base g n cap : Nat} {l : List Int} (h : w.ownsRow base 3 1 (.slice (some ⟨g, 0, none⟩) n cap) n (rowZ l)) : SlZ .i64 w (some ⟨g, 0, none⟩) l := by
  intro i x hx
  refine ⟨g, 0, rfl, ?_⟩
  have hn : (rowZ l).length = n * 1 := h.1
  have hi : i < l.length := (List.getElem?_eq_some_iff.1 hx).1
  rw [Nat.zero_add, h.cellAt i (by rw [rowZ_length] at hn; omega), rowZ_get, hx]
  rfl
theorem infoZ : (Try.prog.info? 3).map (fun i => (i.zero, i.size, i.bytes)) = some (some (.int .i64 0), 1, 8) := by kernel_rfl
theorem mkZ (n : Nat) (hn : n ≤ 2000) (w : World) : (Instr.makeSlice 22 (.int .i64 (n : Int)) (.int .i64 (n : Int))).run Try.prog w = .ok (.slice (some ⟨w.heap.size, 0, none⟩) n n) (w.alloc (.cells (madeCells #[.int .i64 0] n) 3)) := by
  obtain ⟨i0, hi, hz0, hz1, hz2⟩ := info_parts infoZ
  have h := run_make (P := Try.prog) w 22 3 i0 (.int .i64 0) Try.underlying22 hi hz0 .i64 .i64 (n : Int) (n : Int) (by omega) (by omega) (by rw [hz2]; omega) (by omega)
  simpa [hz1, Value.cells] using h
theorem made_rowZ (n : Nat) : (madeCells #[.int .i64 0] n).toList = rowZ (List.replicate n 0) := by
  rw [toList_madeCells_one]; simp [rowZ]
end Go.Proofs.Ytchpiiccdoejdaa

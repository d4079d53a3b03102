import Derived.Test.YtmfagdbocidfjaaV10
/- Elimination, plain: the first row that isn't 0 in a column, the steps of Invert and of both Ranks. No program is in sight. -/
namespace Go.Proofs.Ytmfagdbocidfjaa
/-- the first row from k on, of f, that isn't 0 in the column; the one behind the last -/
def pvK (M : Nat → Nat → Nat) (col : Nat) : Nat → Nat → Nat
  | 0, k => k
  | f + 1, k => if M k col ≠ 0 then k else pvK M col f (k + 1)
def pvF (M : Nat → Nat → Nat) (col R fr : Nat) : Nat := pvK M col (R - fr) fr
set_option maxRecDepth 100000 in
theorem pvK_facts (M : Nat → Nat → Nat) (col : Nat) : ∀ f k, k ≤ pvK M col f k ∧ pvK M col f k ≤ k + f ∧ (pvK M col f k < k + f → M (pvK M col f k) col ≠ 0) ∧ ∀ j, k ≤ j → j < pvK M col f k → M j col = 0
  | 0, k => ⟨Nat.le_refl _, Nat.le_refl _, fun h => absurd h (by unfold pvK; omega), fun j h1 h2 => by unfold pvK at h2; omega⟩
  | f + 1, k => by
    obtain ⟨h1, h2, h3, h4⟩ := pvK_facts M col f (k + 1)
    unfold pvK
    by_cases h : M k col ≠ 0
    · rw [if_pos h]
      exact ⟨Nat.le_refl _, by omega, fun _ => h, fun j h1 h2 => by omega⟩
    · rw [if_neg h]
      refine ⟨by omega, by omega, fun hlt => h3 (by omega), fun j hj1 hj2 => ?_⟩
      by_cases e : j = k
      · subst e; exact Decidable.of_not_not h
      · exact h4 j (by omega) hj2
set_option maxRecDepth 100000 in
theorem pv_facts (M : Nat → Nat → Nat) (col R fr : Nat) (h : fr ≤ R) : fr ≤ pvF M col R fr ∧ pvF M col R fr ≤ R ∧ (pvF M col R fr < R → M (pvF M col R fr) col ≠ 0) ∧ ∀ j, fr ≤ j → j < pvF M col R fr → M j col = 0 := by
  obtain ⟨h1, h2, h3, h4⟩ := pvK_facts M col (R - fr) fr
  unfold pvF
  exact ⟨h1, by omega, fun hlt => h3 (by omega), h4⟩
set_option maxRecDepth 100000 in
theorem pvK_congr (M M' : Nat → Nat → Nat) (col : Nat) : ∀ f k, (∀ j, k ≤ j → j < k + f → M j col = M' j col) → pvK M col f k = pvK M' col f k
  | 0, _, _ => rfl
  | f + 1, k, h => by
    unfold pvK
    rw [h k (Nat.le_refl _) (by omega), pvK_congr M M' col f (k + 1) (fun j h1 h2 => h j (by omega) (by omega))]
set_option maxRecDepth 100000 in
theorem pv_congr (M M' : Nat → Nat → Nat) (col R fr : Nat) (h : ∀ j, fr ≤ j → j < R → M j col = M' j col) : pvF M col R fr = pvF M' col R fr := by
  unfold pvF
  exact pvK_congr M M' col _ _ (fun j h1 h2 => h j h1 (by omega))
/-- a column is made 0 but in row i, where it is 1; what is done is done to X -/
def clF (M X : Nat → Nat → Nat) (i col : Nat) : Nat → Nat → Nat := elF X (rinv (M i col)) (fun r => M r col) i
/-- Invert's matrix and the other one, ahead of step i -/
def ivS (F : Nat → Nat → Nat) (n : Nat) : Nat → (Nat → Nat → Nat) × (Nat → Nat → Nat)
  | 0 => (F, idF)
  | i + 1 => (clF (swF (ivS F n i).1 i (pvF (ivS F n i).1 i n i)) (swF (ivS F n i).1 i (pvF (ivS F n i).1 i n i)) i i, clF (swF (ivS F n i).1 i (pvF (ivS F n i).1 i n i)) (swF (ivS F n i).2 i (pvF (ivS F n i).1 i n i)) i i)
set_option maxRecDepth 100000 in
theorem iv_zero (F : Nat → Nat → Nat) (n : Nat) : ivS F n 0 = (F, idF) := by rw [ivS]
set_option maxRecDepth 100000 in
theorem iv_next1 (F : Nat → Nat → Nat) (n i : Nat) : (ivS F n (i + 1)).1 = clF (swF (ivS F n i).1 i (pvF (ivS F n i).1 i n i)) (swF (ivS F n i).1 i (pvF (ivS F n i).1 i n i)) i i := by rw [ivS]
set_option maxRecDepth 100000 in
theorem iv_next2 (F : Nat → Nat → Nat) (n i : Nat) : (ivS F n (i + 1)).2 = clF (swF (ivS F n i).1 i (pvF (ivS F n i).1 i n i)) (swF (ivS F n i).2 i (pvF (ivS F n i).1 i n i)) i i := by rw [ivS]
/-- program's Rank: how many pivots there are, and the matrix, ahead of a column -/
def gjS (F : Nat → Nat → Nat) (R : Nat) : Nat → Nat × (Nat → Nat → Nat)
  | 0 => (0, F)
  | c + 1 => if (gjS F R c).1 < R ∧ pvF (gjS F R c).2 c R (gjS F R c).1 < R then ((gjS F R c).1 + 1, clF (swF (gjS F R c).2 (gjS F R c).1 (pvF (gjS F R c).2 c R (gjS F R c).1)) (swF (gjS F R c).2 (gjS F R c).1 (pvF (gjS F R c).2 c R (gjS F R c).1)) (gjS F R c).1 c) else gjS F R c
set_option maxRecDepth 100000 in
theorem gj_zero (F : Nat → Nat → Nat) (R : Nat) : gjS F R 0 = (0, F) := by rw [gjS]
set_option maxRecDepth 100000 in
theorem gj_yes (F : Nat → Nat → Nat) (R c : Nat) (h1 : (gjS F R c).1 < R) (h2 : pvF (gjS F R c).2 c R (gjS F R c).1 < R) : gjS F R (c + 1) = ((gjS F R c).1 + 1, clF (swF (gjS F R c).2 (gjS F R c).1 (pvF (gjS F R c).2 c R (gjS F R c).1)) (swF (gjS F R c).2 (gjS F R c).1 (pvF (gjS F R c).2 c R (gjS F R c).1)) (gjS F R c).1 c) := by rw [gjS, if_pos ⟨h1, h2⟩]
set_option maxRecDepth 100000 in
theorem gj_no (F : Nat → Nat → Nat) (R c : Nat) (h : ¬ ((gjS F R c).1 < R ∧ pvF (gjS F R c).2 c R (gjS F R c).1 < R)) : gjS F R (c + 1) = gjS F R c := by rw [gjS, if_neg h]
set_option maxRecDepth 100000 in
theorem gj_full (F : Nat → Nat → Nat) (R c : Nat) (h : (gjS F R c).1 = R) : ∀ d, gjS F R (c + d) = gjS F R c
  | 0 => rfl
  | d + 1 => by
    have ih := gj_full F R c h d
    rw [← Nat.add_assoc, gj_no F R (c + d) (by rw [ih]; omega), ih]
set_option maxRecDepth 100000 in
theorem gj_le (F : Nat → Nat → Nat) (R c : Nat) : (gjS F R c).1 ≤ R ∧ (gjS F R c).1 ≤ c := by
  induction c with
  | zero => rw [gj_zero]; exact ⟨Nat.zero_le _, Nat.le_refl _⟩
  | succ c ih =>
    by_cases h : (gjS F R c).1 < R ∧ pvF (gjS F R c).2 c R (gjS F R c).1 < R
    · rw [gj_yes F R c h.1 h.2]; exact ⟨by show _ + 1 ≤ R; omega, by show _ + 1 ≤ _; omega⟩
    · rw [gj_no F R c h]; exact ⟨ih.1, by omega⟩
/-- a row is taken from those behind it -/
def woF (M : Nat → Nat → Nat) (i col r c : Nat) : Nat := if i < r then M r c ^^^ rmul (rmul (M r col) (rinv (M i col))) (M i c) else M r c
/-- the document's Rank -/
def rfS (F : Nat → Nat → Nat) (R : Nat) : Nat → Nat × (Nat → Nat → Nat)
  | 0 => (0, F)
  | c + 1 => if (rfS F R c).1 < R ∧ pvF (rfS F R c).2 c R (rfS F R c).1 < R then ((rfS F R c).1 + 1, woF (swF (rfS F R c).2 (rfS F R c).1 (pvF (rfS F R c).2 c R (rfS F R c).1)) (rfS F R c).1 c) else rfS F R c
set_option maxRecDepth 100000 in
theorem rf_zero (F : Nat → Nat → Nat) (R : Nat) : rfS F R 0 = (0, F) := by rw [rfS]
set_option maxRecDepth 100000 in
theorem rf_yes (F : Nat → Nat → Nat) (R c : Nat) (h1 : (rfS F R c).1 < R) (h2 : pvF (rfS F R c).2 c R (rfS F R c).1 < R) : rfS F R (c + 1) = ((rfS F R c).1 + 1, woF (swF (rfS F R c).2 (rfS F R c).1 (pvF (rfS F R c).2 c R (rfS F R c).1)) (rfS F R c).1 c) := by rw [rfS, if_pos ⟨h1, h2⟩]
set_option maxRecDepth 100000 in
theorem rf_no (F : Nat → Nat → Nat) (R c : Nat) (h : ¬ ((rfS F R c).1 < R ∧ pvF (rfS F R c).2 c R (rfS F R c).1 < R)) : rfS F R (c + 1) = rfS F R c := by rw [rfS, if_neg h]
set_option maxRecDepth 100000 in
theorem rf_full (F : Nat → Nat → Nat) (R c : Nat) (h : (rfS F R c).1 = R) : ∀ d, rfS F R (c + d) = rfS F R c
  | 0 => rfl
  | d + 1 => by
    have ih := rf_full F R c h d
    rw [← Nat.add_assoc, rf_no F R (c + d) (by rw [ih]; omega), ih]
set_option maxRecDepth 100000 in
theorem sw_bd {F : Nat → Nat → Nat} (h : Bd2 F) (i k : Nat) : Bd2 (swF F i k) := fun r c => by unfold swF; exact h _ _
set_option maxRecDepth 100000 in
theorem cl_bd {X : Nat → Nat → Nat} (M : Nat → Nat → Nat) (h : Bd2 X) (i col : Nat) : Bd2 (clF M X i col) := fun r c => by
  unfold clF elF
  split
  · exact rmul_lt _ _
  · exact xor_lt256 (h r c) (rmul_lt _ _)
set_option maxRecDepth 100000 in
theorem wo_bd {M : Nat → Nat → Nat} (h : Bd2 M) (i col : Nat) : Bd2 (woF M i col) := fun r c => by
  unfold woF
  split
  · exact xor_lt256 (h r c) (rmul_lt _ _)
  · exact h r c
set_option maxRecDepth 100000 in
theorem id_bd : Bd2 idF := fun r c => by unfold idF; split <;> omega
set_option maxRecDepth 100000 in
theorem iv_bd (F : Nat → Nat → Nat) (h : Bd2 F) (n i : Nat) : Bd2 (ivS F n i).1 ∧ Bd2 (ivS F n i).2 := by
  induction i with
  | zero => rw [iv_zero]; exact ⟨h, id_bd⟩
  | succ i ih => rw [iv_next1, iv_next2]; exact ⟨cl_bd _ (sw_bd ih.1 _ _) _ _, cl_bd _ (sw_bd ih.2 _ _) _ _⟩
set_option maxRecDepth 100000 in
theorem gj_bd (F : Nat → Nat → Nat) (h : Bd2 F) (R c : Nat) : Bd2 (gjS F R c).2 := by
  induction c with
  | zero => rw [gj_zero]; exact h
  | succ c ih =>
    by_cases hh : (gjS F R c).1 < R ∧ pvF (gjS F R c).2 c R (gjS F R c).1 < R
    · rw [gj_yes F R c hh.1 hh.2]; exact cl_bd _ (sw_bd ih _ _) _ _
    · rw [gj_no F R c hh]; exact ih
set_option maxRecDepth 100000 in
theorem rf_bd (F : Nat → Nat → Nat) (h : Bd2 F) (R c : Nat) : Bd2 (rfS F R c).2 := by
  induction c with
  | zero => rw [rf_zero]; exact h
  | succ c ih =>
    by_cases hh : (rfS F R c).1 < R ∧ pvF (rfS F R c).2 c R (rfS F R c).1 < R
    · rw [rf_yes F R c hh.1 hh.2]; exact wo_bd (sw_bd ih _ _) _ _
    · rw [rf_no F R c hh]; exact ih
set_option maxRecDepth 100000 in
/-- both Ranks' matrices are the same from the next row on -/
theorem rank_same (F : Nat → Nat → Nat) (h : Bd2 F) (R c : Nat) : (gjS F R c).1 = (rfS F R c).1 ∧ ∀ r, (gjS F R c).1 ≤ r → r < R → ∀ k, (gjS F R c).2 r k = (rfS F R c).2 r k := by
  induction c with
  | zero => rw [gj_zero, rf_zero]; exact ⟨rfl, fun _ _ _ _ => rfl⟩
  | succ c ih =>
    obtain ⟨h1, h2⟩ := ih
    have hb := gj_bd F h R c
    have hpv : pvF (gjS F R c).2 c R (gjS F R c).1 = pvF (rfS F R c).2 c R (rfS F R c).1 := by
      rw [← h1]
      exact pv_congr _ _ _ _ _ (fun j hj1 hj2 => h2 j hj1 hj2 c)
    by_cases hh : (gjS F R c).1 < R ∧ pvF (gjS F R c).2 c R (gjS F R c).1 < R
    · have hh2 := hh
      rw [hpv, h1] at hh2
      obtain ⟨p1, p2, p3, p4⟩ := pv_facts (gjS F R c).2 c R (gjS F R c).1 (by omega)
      have hpiv := p3 hh.2
      rw [gj_yes F R c hh.1 hh.2, rf_yes F R c hh2.1 hh2.2, ← hpv, ← h1]
      refine ⟨rfl, fun r hr1 hr2 k => ?_⟩
      dsimp only at hr1 ⊢
      generalize pvF (gjS F R c).2 c R (gjS F R c).1 = q at *
      generalize (gjS F R c).1 = n at *
      generalize (gjS F R c).2 = M at *
      generalize (rfS F R c).2 = M' at *
      have e1 : ∀ r, n ≤ r → r < R → ∀ k, swF M n q r k = swF M' n q r k := fun r h3 h4 k => by
        unfold swF
        refine h2 _ ?_ ?_ k
        · split
          · omega
          · split <;> omega
        · split
          · omega
          · split <;> omega
      unfold clF elF woF
      rw [if_neg (by omega), if_pos (by omega)]
      dsimp only
      rw [e1 r (by omega) hr2 k, e1 r (by omega) hr2 c, e1 n (by omega) (by omega) c, e1 n (by omega) (by omega) k]
      have hb' : ∀ r c, n ≤ r → r < R → swF M' n q r c < 256 := fun r c h3 h4 => by rw [← e1 r h3 h4]; exact sw_bd hb n q r c
      rw [rmul_assoc _ _ _ (hb' r c (by omega) hr2) (rinv_lt _) (hb' n k (Nat.le_refl _) (by omega))]
    · have hh2 : ¬ ((rfS F R c).1 < R ∧ pvF (rfS F R c).2 c R (rfS F R c).1 < R) := by rw [← hpv, ← h1]; exact hh
      rw [gj_no F R c hh, rf_no F R c hh2]
      exact ⟨h1, h2⟩
set_option maxRecDepth 100000 in
/-- Invert goes as Rank does, as long as each pivot is in its column -/
theorem iv_gj (F : Nat → Nat → Nat) (n i : Nat) (hi : i ≤ n) (h : ∀ j, j < i → pvF (ivS F n j).1 j n j < n) : gjS F n i = (i, (ivS F n i).1) := by
  induction i with
  | zero => rw [gj_zero, iv_zero]
  | succ i ih =>
    have e := ih (by omega) (fun j hj => h j (by omega))
    have hp := h i (by omega)
    have e1 : (gjS F n i).1 = i := by rw [e]
    have e2 : (gjS F n i).2 = (ivS F n i).1 := by rw [e]
    rw [gj_yes F n i (by rw [e1]; omega) (by rw [e1, e2]; exact hp), e1, e2, iv_next1]
set_option maxRecDepth 100000 in
/-- each further column adds at most one -/
theorem gj_more (F : Nat → Nat → Nat) (R c d : Nat) : (gjS F R (c + d)).1 ≤ (gjS F R c).1 + d := by
  induction d with
  | zero => exact Nat.le_refl _
  | succ d ih =>
    rw [← Nat.add_assoc]
    by_cases hh : (gjS F R (c + d)).1 < R ∧ pvF (gjS F R (c + d)).2 (c + d) R (gjS F R (c + d)).1 < R
    · rw [gj_yes F R (c + d) hh.1 hh.2]; show _ + 1 ≤ _; omega
    · rw [gj_no F R (c + d) hh]; omega
set_option maxRecDepth 100000 in
theorem rank_full (F : Nat → Nat → Nat) (n : Nat) (h : ∀ j, j < n → pvF (ivS F n j).1 j n j < n) : (gjS F n n).1 = n := by rw [iv_gj F n n (Nat.le_refl _) h]
set_option maxRecDepth 100000 in
theorem rank_less (F : Nat → Nat → Nat) (n i : Nat) (hi : i < n) (h : ∀ j, j < i → pvF (ivS F n j).1 j n j < n) (hno : ¬ pvF (ivS F n i).1 i n i < n) : (gjS F n n).1 < n := by
  have e := iv_gj F n i (by omega) h
  have e1 : (gjS F n i).1 = i := by rw [e]
  have e2 : (gjS F n i).2 = (ivS F n i).1 := by rw [e]
  have h1 := gj_no F n i (by rw [e1, e2]; exact fun h => hno h.2)
  have h2 := gj_more F n (i + 1) (n - (i + 1))
  rw [h1, e1, show i + 1 + (n - (i + 1)) = n by omega] at h2
  omega
set_option maxRecDepth 100000 in
theorem first_no (p : Nat → Prop) [DecidablePred p] (n : Nat) : (∀ j, j < n → p j) ∨ ∃ i, i < n ∧ ¬ p i ∧ ∀ j, j < i → p j := by
  induction n with
  | zero => exact .inl (fun j hj => absurd hj (by omega))
  | succ n ih =>
    rcases ih with h | ⟨i, h1, h2, h3⟩
    · by_cases hp : p n
      · refine .inl (fun j hj => ?_)
        by_cases e : j = n
        · subst e; exact hp
        · exact h j (by omega)
      · exact .inr ⟨n, by omega, hp, h⟩
    · exact .inr ⟨i, by omega, h2, h3⟩
end Go.Proofs.Ytmfagdbocidfjaa

/- The contracts of package matrix's Invert and Rank. Conditions: what the slice reads as. -/
namespace Go.Proofs.Ytmfagdbocidfjaa
open Go.RowKit
set_option maxRecDepth 100000 in
theorem MRow.of_by {w : World} {g R C : Nat} {F : Nat → Nat → Nat} (h : BRow w g (R * C) (flF C F)) : MRow w g R C F := h
def MatPost (W : World) (R C : Nat) (F : Nat → Nat → Nat) (e : Ending) (W' : World) : Prop := NewMPost W R C F e W'
set_option maxRecDepth 100000 in
theorem below_two {B : Nat} {w0 w w' : World} {g h : Nat} (k : Two w w' g h) (hb : Below B w0 w) (hB : B ≤ w.heap.size) (hg : B ≤ g) (hh : B ≤ h) : Below B w0 w' := k.to_below hb hB hg hh
set_option maxRecDepth 100000 in
theorem beq_i {a b : Int} (h : a ≠ b) : (a != b) = true := by simpa [bne] using h
set_option maxRecDepth 100000 in
theorem two_gf {w w' : World} {g h p : Nat} (k : Two w w' g h) (hp : IsGf w p) (h1 : p ≠ g) (h2 : p ≠ h) : IsGf w' p := (k.blk p hp.lt h1 h2).trans hp
set_option maxRecDepth 100000 in
theorem two_blk {w w' : World} {g h b : Nat} (k : Two w w' g h) (hb : b < w.heap.size) (h1 : b ≠ g) (h2 : b ≠ h) : blk w' b = blk w b := k.blk b hb h1 h2
set_option maxRecDepth 100000 in
theorem clear_cl (M X : Nat → Nat → Nat) (i col : Nat) : elF X (rinv (M i col)) (fun r => M r col) i = clF M X i col := rfl
set_option maxRecDepth 100000 in
theorem sw_piv (M : Nat → Nat → Nat) (i k c : Nat) : swF M i k i c = M k c := by unfold swF; rw [if_pos rfl]
attribute [local irreducible] gexp gtbl glog rmul rinv rpow zexp mixF blk wLoad wLoadRes loadAns wStore wStoreRes storeAns Plain flF BRow MRow elK elF IsGf ivS gjS pvF clF swF
attribute [local go_sem ↓] ld_m0 sto_m0
attribute [local go_sem] ld_m sto_m loadAns_some storeAns_some mx_size mx_plain blk_alloc_if blk_setRow_if blk_drew_at blk_drewN_at rowPut_some blk_setCell_if cellPut_some
set_option maxRecDepth 100000 in
set_option maxHeartbeats 4000000 in
theorem m_invert_no (p : Nat) (r c : Int) (a : Option Addr) (len cap : Nat) (w : World) (h : rightB r c len = false ∨ r ≠ c) :
    Calls Try.prog 100 #[.pointer (some ⟨p, 0, none⟩), .agg #[.int .i64 r, .int .i64 c, .slice a len cap]] w (NoMPost w 50) := by
  have hz := zeroM
  obtain ⟨h0, h1, hsz, hB⟩ := two_allocs w (.cells #[.int .i64 r, .int .i64 c, .slice a len cap] 188) (.cells #[.int .i64 0, .int .i64 0, .slice none 0 0] 188)
  have kr := Lib.hid (fun W => m_right r c a len cap W)
  obtain ⟨b, hb⟩ : ∃ b, rightB r c len = b := ⟨_, rfl⟩
  rw [hb] at h kr
  clear hb
  go_enter Try.func100, Try.ntmps100
  go_upto_region 1 with (fail)
  generalize World.alloc (World.alloc w _) _ = W at *
  have hx0 : w.heap.size < W.heap.size := by omega
  have hx1 : w.heap.size + 1 < W.heap.size := by omega
  have b0 := blk_of h0
  have h0h := Lib.hid b0
  have h1h := Lib.hid h1
  have hBh := Lib.hid hB
  clear h0 h1 hsz hB
  go_wp2_with fail
  refine (kr.out W).mono ?_
  rintro e w2 ⟨rfl, hb2⟩
  have b02h := (blk_below hb2 hx0).trans h0h.out
  have b12h := Lib.hid ((hb2.block _ hx1).trans h1h.out)
  have b12 := blk_of b12h.out
  have c0 : w2.cell? ⟨w.heap.size, 0, none⟩ = some (.int .i64 r) := (cell_of_block (blk_heap b02h)).trans rfl
  have c1 : w2.cell? ⟨w.heap.size, 1, none⟩ = some (.int .i64 c) := (cell_of_block (blk_heap b02h)).trans rfl
  have hB2 := Lib.hid (hBh.out.trans (hb2.mono hBh.out.size))
  clear hb2 b0 b02h
  cases b with
  | false =>
    go_wp2_with fail
    refine bodyPost_ret (v := .tuple #[.agg #[.int .i64 0, .int .i64 0, .slice none 0 0], .int .i64 50]) (results_row_tmp rfl _ _ (w.heap.size + 1) 188 _ (0, 0) _ _ rfl rfl (setRow_heap _ _ _ _ _ _ b12h.out) Try.underlying188 rfl mx_info) rfl ⟨rfl, below_setRow hB2.out (by omega) _⟩
  | true =>
    have hne := beq_i (h.resolve_left (by simp))
    go_wp2_with fail
    refine bodyPost_ret (v := .tuple #[.agg #[.int .i64 0, .int .i64 0, .slice none 0 0], .int .i64 50]) (results_row_tmp rfl _ _ (w.heap.size + 1) 188 _ (0, 0) _ _ rfl rfl (setRow_heap _ _ _ _ _ _ b12h.out) Try.underlying188 rfl mx_info) rfl ⟨rfl, below_setRow hB2.out (by omega) _⟩
set_option maxRecDepth 100000 in
theorem right_nat (R C : Nat) (hR : R ≤ 255) (hC : C ≤ 255) : rightB (R : Int) (C : Int) (R * C) = true := by unfold rightB; simp; omega
set_option maxRecDepth 100000 in
theorem bne_cast_f (i : Nat) : (((i : Nat) : Int) != (i : Int)) = false := by simp
/-- what Invert holds ahead of step i -/
structure InvAt (wr W : World) (p g h n cap i : Nat) (bm bo : Nat) (F : Nat → Nat → Nat) : Prop where
  m : MRow wr g n n (ivS F n i).1
  e : MRow wr h n n (ivS F n i).2
  p : IsGf wr p
  bm : blk wr bm = some (.cells #[.int .i64 (n : Nat), .int .i64 (n : Nat), .slice (some ⟨g, 0, none⟩) (n * n) cap] 188 (0, 0))
  bo : blk wr bo = some (.cells #[.int .i64 (n : Nat), .int .i64 (n : Nat), .slice (some ⟨h, 0, none⟩) (n * n) (n * n)] 188 (0, 0))
  t : Two W wr g h
set_option maxRecDepth 100000 in
theorem InvAt.below {wr w2 W : World} {p g h n cap i bm bo : Nat} {F : Nat → Nat → Nat} (k : InvAt wr W p g h n cap i bm bo F) (hb : Below wr.heap.size wr w2) : InvAt w2 W p g h n cap i bm bo F :=
  ⟨k.m.below hb k.m.lt, k.e.below hb k.e.lt, k.p.below hb k.p.lt, (blk_below hb (blk_lt k.bm)).trans k.bm, (blk_below hb (blk_lt k.bo)).trans k.bo, k.t.below hb⟩
set_option maxRecDepth 100000 in
set_option maxHeartbeats 8000000 in
theorem m_invert (p n : Nat) (a : Option Addr) (cap : Nat) (F : Nat → Nat → Nat) (w : World) (hp : IsGf w p) (ha : MAt w a n n F) (hnil : a = none → n * n = 0 ∧ cap = 0) (hF : Bd2 F) (hn : n ≤ 255) :
    Calls Try.prog 100 #[.pointer (some ⟨p, 0, none⟩), .agg #[.int .i64 (n : Nat), .int .i64 (n : Nat), .slice a (n * n) cap]] w
      (fun e w' => ((∀ j, j < n → pvF (ivS F n j).1 j n j < n) → NewMPost w n n (ivS F n n).2 e w') ∧ ((∃ i, i < n ∧ ¬ pvF (ivS F n i).1 i n i < n ∧ ∀ j, j < i → pvF (ivS F n j).1 j n j < n) → NoMPost w 51 e w')) := by
  have hz := zeroM
  obtain ⟨h0, h1, hsz, hB⟩ := two_allocs w (.cells #[.int .i64 (n : Nat), .int .i64 (n : Nat), .slice a (n * n) cap] 188) (.cells #[.int .i64 0, .int .i64 0, .slice none 0 0] 188)
  have kr := Lib.hid (fun W => m_right n n a (n * n) cap W)
  rw [right_nat n n hn hn] at kr
  have hrc := rc_le hn hn
  have kc := Lib.hid (fun W (h : MAt W a n n F) => m_clone n n a (n * n) cap (flF n F) W h.by hnil (by omega))
  have ki := Lib.hid (fun W => m_identity n W hn)
  have hah := Lib.hid ha
  have hph := Lib.hid hp
  have hpl := hp.lt
  clear ha hp
  go_enter Try.func100, Try.ntmps100
  go_upto_region 1 with (fail)
  generalize World.alloc (World.alloc w _) _ = W at *
  have hx0 : w.heap.size < W.heap.size := by omega
  have hx1 : w.heap.size + 1 < W.heap.size := by omega
  have b0 := blk_of h0
  have h0h := Lib.hid b0
  have h1h := Lib.hid h1
  have hBh := Lib.hid hB
  have haW := Lib.hid (hah.out.below hB)
  have hpW := Lib.hid (hph.out.below hB hpl)
  clear h0 h1 hsz hB
  go_wp2_with fail
  refine (kr.out W).mono ?_
  rintro e w2 ⟨rfl, hb2⟩
  have b02 := (blk_below hb2 hx0).trans h0h.out
  have c0 : w2.cell? ⟨w.heap.size, 0, none⟩ = some (.int .i64 (n : Nat)) := (cell_of_block (blk_heap b02)).trans rfl
  have c1 : w2.cell? ⟨w.heap.size, 1, none⟩ = some (.int .i64 (n : Nat)) := (cell_of_block (blk_heap b02)).trans rfl
  have hne := bne_cast_f n
  have hb2h := Lib.hid hb2
  have hs2 := hb2.size
  have kc2 := Lib.hid (kc.out w2 (haW.out.below hb2))
  clear hb2 b0
  go_wp2_with fail
  refine kc2.out.mono ?_
  rintro e w3 ⟨g, c3, rfl, hg, hc3, hc3b, hm3, hb3⟩
  have hm3h := Lib.hid (MRow.of_by hm3)
  have hgl := hm3.lt
  have hb3h := Lib.hid (hb2h.out.trans (hb3.mono hs2))
  have hs3 := hb3.size
  clear hm3 hb3 b02 c0 c1
  go_upto_region 4 with (fail)
  obtain ⟨x0, x1, x2⟩ := boxed w3 #[.int .i64 0, .int .i64 0, .slice none 0 0] #[.int .i64 (n : Nat), .int .i64 (n : Nat), .slice (some ⟨g, 0, none⟩) (n * n) c3] 188
  generalize World.setRow (World.alloc w3 _) _ _ = X at *
  have hX1 : w3.heap.size < X.heap.size := by omega
  have hmX := Lib.hid (hm3h.out.below x2 hgl)
  have hbX := Lib.hid (hb3h.out.trans (x2.mono (by omega)))
  have hx0h := Lib.hid (blk_of x0)
  have c0 : X.cell? ⟨w.heap.size, 0, none⟩ = some (.int .i64 (n : Nat)) := (cell_of_block (blk_heap ((blk_below hbX.out hx0).trans h0h.out))).trans rfl
  clear x0 x1 x2
  go_wp2_with fail
  refine (ki.out X).mono ?_
  rintro e w4 ⟨h, rfl, hh, he4, hb4⟩
  have he4h := Lib.hid he4
  have hhl := he4.lt
  have hb4h := Lib.hid (below_step hbX.out hbX.out.size hb4)
  have hm4h := Lib.hid (hmX.out.below hb4 (by omega))
  have hx4 := Lib.hid ((blk_below hb4 hX1).trans hx0h.out)
  have hs4 := hb4.size
  clear he4 hb4 c0
  go_upto_region 5 with (fail)
  obtain ⟨x0, x1, x2⟩ := boxed w4 #[.int .i64 0, .int .i64 0, .slice none 0 0] #[.int .i64 (n : Nat), .int .i64 (n : Nat), .slice (some ⟨h, 0, none⟩) (n * n) (n * n)] 188
  generalize World.setRow (World.alloc w4 _) _ _ = Y at *
  have hY1 : w4.heap.size < Y.heap.size := by omega
  have hbY := Lib.hid (hb4h.out.trans (x2.mono (by omega)))
  have hI : Hid (InvAt Y Y p g h n c3 0 w3.heap.size w4.heap.size F) := hide (by
    refine ⟨?_, ?_, hpW.out.below hbY.out (by omega), (blk_below x2 (by omega)).trans hx4.out, blk_of x0, Two.refl _ _ _⟩
    · rw [iv_zero]; exact hm4h.out.below x2 (by omega)
    · rw [iv_zero]; exact he4h.out.below x2 hhl)
  have c0 : Y.cell? ⟨w3.heap.size, 0, none⟩ = some (.int .i64 (n : Nat)) := (cell_of_block (blk_heap hI.out.bm)).trans rfl
  clear x0 x1 x2
  go_upto_region 6 with (fail)
  have hb1Y := Lib.hid ((hbY.out.block _ hx1).trans h1h.out)
  have hgW : W.heap.size ≤ g := by omega
  have hhW : W.heap.size ≤ h := by omega
  have hgh : g ≠ h := by omega
  have hpg : p ≠ g := by omega
  have hph2 : p ≠ h := by omega
  have hmg : w3.heap.size ≠ g := by omega
  have hmh : w3.heap.size ≠ h := by omega
  have hog : w4.heap.size ≠ g := by omega
  have hoh : w4.heap.size ≠ h := by omega
  have hrg : w.heap.size + 1 ≠ g := by omega
  have hrh : w.heap.size + 1 ≠ h := by omega
  have hrY : w.heap.size + 1 < Y.heap.size := by omega
  have hwW : w.heap.size ≤ W.heap.size := by omega
  clear c0 hs2 hs3 hs4 hX1 hY1 hg hh hgl hhl
  go_loopw [32] (fun iv wr => ∃ i : Nat, i ≤ n ∧ iv = .int .i64 (i : Nat) ∧ Hid (InvAt wr Y p g h n c3 i w3.heap.size w4.heap.size F) ∧ Hid (∀ j, j < i → pvF (ivS F n j).1 j n j < n)) (fun iv _ => n - (intOf iv).toNat)
  case atStart => exact ⟨0, Nat.zero_le _, rfl, hide ⟨hI.out.m, hI.out.e, hI.out.p, hI.out.bm, hI.out.bo, hI.out.t⟩, hide (fun j hj => absurd hj (by omega))⟩
  case round =>
    obtain ⟨i, hi, rfl, hV, hpv⟩ := hrel
    clear hI
    have bm := hV.out.bm
    have bo := hV.out.bo
    by_cases hin : i < n
    · have i1 : (i : Int) < (n : Int) := by omega
      obtain ⟨p1, p2, p3, p4⟩ := pv_facts (ivS F n i).1 i n i hi
      by_cases hk : pvF (ivS F n i).1 i n i < n
      · have hnx := Lib.hid (fun j (hj : j < i + 1) => (by
          by_cases e : j = i
          · subst e; exact hk
          · exact hpv.out j (by omega) : pvF (ivS F n j).1 j n j < n))
        have hn1 := Lib.hid (iv_next1 F n i)
        have hn2 := Lib.hid (iv_next2 F n i)
        have hbd := Lib.hid (iv_bd F hF n i)
        have hnz := Lib.hid (p3 hk)
        have kp := Lib.hid (m_pivot_yes n n i i (pvF (ivS F n i).1 i n i) (ivS F n i).1 (some ⟨g, 0, none⟩) c3 wr hV.out.m.mat hin hn hn hc3 p1 hk p4 (p3 hk))
        clear p3 p4
        generalize pvF (ivS F n i).1 i n i = k at *
        have d1 : decide ((k : Int) < 0) = false := decide_eq_false (by omega)
        go_wp2_with fail
        refine kp.out.mono ?_
        rintro e z1 ⟨rfl, hq1⟩
        have hV1 := Lib.hid (hV.out.below hq1)
        have bm1 := hV1.out.bm
        have ks := Lib.hid (m_swap g n n i k c3 (ivS F n i).1 z1 hV1.out.m hin hk hn hn hc3)
        clear hq1 bm bo
        go_wp2_with fail
        refine ks.out.mono ?_
        rintro e z2 ⟨rfl, hm2, hg2⟩
        have hm2h := Lib.hid hm2
        have he2h := Lib.hid (hV1.out.e.kept hg2 (fun e => hgh e.symm))
        have hp2h := Lib.hid (hV1.out.p.kept hg2 hpg)
        have bm2h := Lib.hid ((blk_kept hg2 (blk_lt hV1.out.bm) hmg).trans hV1.out.bm)
        have bo2h := Lib.hid ((blk_kept hg2 (blk_lt hV1.out.bo) hog).trans hV1.out.bo)
        have ht2h := Lib.hid (hV1.out.t.grown hg2 (.inl rfl))
        have bo2 := bo2h.out
        have ks2 := Lib.hid (m_swap h n n i k (n * n) (ivS F n i).2 z2 he2h.out hin hk hn hn (Nat.le_refl _))
        clear hm2 hg2 bm1
        go_wp2_with fail
        refine ks2.out.mono ?_
        rintro e z3 ⟨rfl, he3, hg3⟩
        have he3h := Lib.hid he3
        have hm3h := Lib.hid (hm2h.out.kept hg3 hgh)
        have hp3h := Lib.hid (hp2h.out.kept hg3 hph2)
        have bm3h := Lib.hid ((blk_kept hg3 (blk_lt bm2h.out) hmh).trans bm2h.out)
        have bo3h := Lib.hid ((blk_kept hg3 (blk_lt bo2h.out) hoh).trans bo2h.out)
        have ht3h := Lib.hid (ht2h.out.grown hg3 (.inr rfl))
        have bm3 := bm3h.out
        have bo3 := bo3h.out
        have kcl := Lib.hid (m_clear p g h n n n i i c3 (n * n) (swF (ivS F n i).1 i k) (swF (ivS F n i).2 i k) z3 hp3h.out hm3h.out he3h.out hgh hpg hph2 (sw_bd hbd.out.1 i k) (sw_bd hbd.out.2 i k) hin hin (by rw [sw_piv]; exact hnz.out) hn hn hn hc3 (Nat.le_refl _))
        clear he3 hg3 bo2
        go_wp2_with fail
        refine kcl.out.mono ?_
        rintro e z4 ⟨rfl, hm4, he4, ht4⟩
        rw [clear_cl, ← hn1.out] at hm4
        rw [clear_cl, ← hn2.out] at he4
        have hV4 : Hid (InvAt z4 Y p g h n c3 (i + 1) w3.heap.size w4.heap.size F) := hide
          ⟨hm4, he4, two_gf ht4 hp3h.out hpg hph2, (two_blk ht4 (blk_lt bm3h.out) hmg hmh).trans bm3h.out, (two_blk ht4 (blk_lt bo3h.out) hog hoh).trans bo3h.out, ht3h.out.trans ht4⟩
        clear hm4 he4 ht4 bm3 bo3
        go_wp2_with fail
        go_roundw
        case rel => exact ⟨i + 1, by omega, by go_num, hV4, hnx⟩
        case measure => simp [intOf]; omega
      · have kp := Lib.hid (m_pivot_no n n i i (ivS F n i).1 (some ⟨g, 0, none⟩) c3 wr hV.out.m.mat hin hn hn hc3 hi (fun j h1 h2 => p4 j h1 (by omega)))
        have hkh := Lib.hid hk
        clear p1 p2 p3 p4 hk
        go_wp2_with fail
        refine kp.out.mono ?_
        rintro e z1 ⟨rfl, hq1⟩
        have ht1 := hV.out.t.below hq1
        have hr1 := (ht1.blk _ hrY hrg hrh).trans hb1Y.out
        have br1 := blk_of hr1
        have hr1h := Lib.hid hr1
        have hB1 := Lib.hid (hBh.out.trans ((ht1.to_below hbY.out (by have := hbY.out.size; omega) hgW hhW).mono hwW))
        clear hq1 ht1 hr1 bm bo
        go_wp2_with fail
        refine bodyPost_ret (v := .tuple #[.agg #[.int .i64 0, .int .i64 0, .slice none 0 0], .int .i64 51]) (results_row_tmp rfl _ _ (w.heap.size + 1) 188 _ (0, 0) _ _ rfl rfl (setRow_heap _ _ _ _ _ _ hr1h.out) Try.underlying188 rfl mx_info) rfl ⟨fun h => absurd (h i hin) hkh.out, fun _ => ⟨rfl, below_setRow hB1.out (by omega) _⟩⟩
    · obtain rfl : i = n := by omega
      have i1 : decide ((i : Int) < (i : Int)) = false := by simp
      have hr1 := (hV.out.t.blk _ hrY hrg hrh).trans hb1Y.out
      have br1 := blk_of hr1
      have hr1h := Lib.hid hr1
      have hB1 := Lib.hid (hBh.out.trans ((hV.out.t.to_below hbY.out (by have := hbY.out.size; omega) hgW hhW).mono hwW))
      clear hr1
      go_wp2_with fail
      refine bodyPost_ret (v := .tuple #[.agg #[.int .i64 (i : Nat), .int .i64 (i : Nat), .slice (some ⟨h, 0, none⟩) (i * i) (i * i)], .int .i64 0]) (results_row_tmp rfl _ _ (w.heap.size + 1) 188 _ (0, 0) _ _ rfl rfl (setRow_heap _ _ _ _ _ _ hr1h.out) Try.underlying188 rfl mx_info) rfl ⟨fun _ => ⟨h, rfl, by omega, hV.out.e.stay (setRow_other _ _ _ _ (fun e => hrh e.symm)), below_setRow hB1.out (by omega) _⟩, fun hx => ?_⟩
      obtain ⟨j, hj, hno, _⟩ := hx
      exact absurd (hpv.out j hj) hno
end Go.Proofs.Ytmfagdbocidfjaa

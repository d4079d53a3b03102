/- Any unlike rows of a matrix of powers: each step of Invert finds its pivot. Plain: a polynomial with more places where it is 0 than its degree has no top. -/
import Derived.Test.YtkcalgolanpjaaaMatAlg
import Derived.Test.YtkcalgolanpjaaaPolyPlain
import Derived.Test.YtkcalgolanpjaaaMat13
namespace Go.Proofs.Ytkcalgolanpjaaa
theorem pow_comm3 (a b c : Nat) (ha : a < 256) (hb : b < 256) (hc : c < 256) : rmul a (rmul b c) = rmul b (rmul a c) := by
  rw [rmul_assoc a b c ha hb hc, rmul_comm a b ha hb, ← rmul_assoc b a c hb ha hc]
theorem xor_zero_eq {a b : Nat} (h : a ^^^ b = 0) : a = b := by
  have : a ^^^ b ^^^ b = 0 ^^^ b := by rw [h]
  rw [Nat.xor_assoc, Nat.xor_self, Nat.xor_zero, Nat.zero_xor] at this
  exact this
/-- a polynomial, less its value, is a multiple of the distance; the top stays -/
theorem root_div (a : Nat) (ha : a < 256) (n : Nat) : ∀ f : Nat → Nat, Bd f → ∃ q, Bd q ∧ q n = f (n + 1) ∧ ∀ x, x < 256 → ev f x (n + 2) = rmul (x ^^^ a) (ev q x (n + 1)) ^^^ ev f a (n + 2) := by
  induction n with
  | zero =>
    intro f hf
    refine ⟨fun j => if j = 0 then f 1 else 0, fun j => by dsimp only; split; exact hf _; omega, rfl, fun x hx => ?_⟩
    have e1 : ∀ y, y < 256 → rpow y 1 = y := fun y hy => by rw [rpow_succ, rpow_zero, one_mul8 y hy]
    simp only [ev]
    rw [e1 x hx, e1 a ha, rpow_zero, rpow_zero]
    rw [if_pos True.intro]
    have e2 := rmul_one (f 0) (hf 0)
    have e3 := rmul_one (f 1) (hf 1)
    rw [e2, e3]
    simp only [Nat.zero_xor]
    rw [rmul_xor_left, rmul_comm x (f 1) hx (hf 1), rmul_comm a (f 1) ha (hf 1), Nat.xor_comm (f 0) (rmul (f 1) a), ← Nat.xor_assoc, Nat.xor_assoc (rmul (f 1) x), Nat.xor_self, Nat.xor_zero, Nat.xor_comm]
  | succ n ih =>
    intro f hf
    -- the top is taken off
    obtain ⟨g, hg⟩ : ∃ g : Nat → Nat, ∀ j, g j = if j = n + 1 then f (n + 1) ^^^ rmul a (f (n + 2)) else f j := ⟨_, fun _ => rfl⟩
    have hgb : Bd g := fun j => by rw [hg]; split; exact xor_lt8 (hf _) (rmul_lt _ _); exact hf _
    obtain ⟨q, hq, hqt, hqe⟩ := ih g hgb
    have hgn : g (n + 1) = f (n + 1) ^^^ rmul a (f (n + 2)) := by rw [hg, if_pos rfl]
    have hev : ∀ x, ev g x (n + 1) = ev f x (n + 1) := fun x => ev_congr _ _ _ _ (fun i hi => by rw [hg, if_neg (by omega)])
    have hfe : ∀ x, x < 256 → ev f x (n + 3) = ev g x (n + 2) ^^^ rmul (rmul (f (n + 2)) (rpow x (n + 1))) (x ^^^ a) := fun x hx => by
      have h1 : ev f x (n + 3) = ev f x (n + 1) ^^^ rmul (f (n + 1)) (rpow x (n + 1)) ^^^ rmul (f (n + 2)) (rpow x (n + 2)) := rfl
      have h2 : ev g x (n + 2) = ev g x (n + 1) ^^^ rmul (g (n + 1)) (rpow x (n + 1)) := rfl
      rw [h1, h2, hev, hgn, rmul_xor_left, rmul_xor_right]
      have h3 : rmul (f (n + 2)) (rpow x (n + 2)) = rmul (rmul (f (n + 2)) (rpow x (n + 1))) x := by
        rw [show n + 2 = (n + 1) + 1 from rfl, rpow_succ, rmul_assoc _ _ _ (hf _) (rpow_lt _ _) hx]
      have h4 : rmul (rmul a (f (n + 2))) (rpow x (n + 1)) = rmul (rmul (f (n + 2)) (rpow x (n + 1))) a := by
        rw [← rmul_assoc a _ _ ha (hf _) (rpow_lt _ _), rmul_comm a _ ha (rmul_lt _ _)]
      rw [h3, h4]
      generalize rmul (rmul (f (n + 2)) (rpow x (n + 1))) x = A
      generalize rmul (rmul (f (n + 2)) (rpow x (n + 1))) a = B
      generalize rmul (f (n + 1)) (rpow x (n + 1)) = C
      generalize ev f x (n + 1) = D
      rw [Nat.xor_comm A B, ← Nat.xor_assoc, ← Nat.xor_assoc, Nat.xor_assoc _ B B, Nat.xor_self, Nat.xor_zero]
    refine ⟨fun j => if j = n + 1 then f (n + 2) else q j, fun j => by dsimp only; split; exact hf _; exact hq _, by show (if n + 1 = n + 1 then f (n + 2) else q (n + 1)) = f (n + 1 + 1); rw [if_pos rfl], fun x hx => ?_⟩
    have h5 : ev (fun j => if j = n + 1 then f (n + 2) else q j) x (n + 2) = ev q x (n + 1) ^^^ rmul (f (n + 2)) (rpow x (n + 1)) := by
      show ev (fun j => if j = n + 1 then f (n + 2) else q j) x (n + 1) ^^^ rmul (if n + 1 = n + 1 then f (n + 2) else q (n + 1)) (rpow x (n + 1)) = _
      rw [if_pos rfl, ev_congr (fun j => if j = n + 1 then f (n + 2) else q j) q x (n + 1) (fun i hi => by rw [if_neg (by omega)])]
    rw [show n + 1 + 2 = n + 3 from rfl, show n + 1 + 1 = n + 2 from rfl, hfe x hx, hfe a ha, Nat.xor_self, rmul_zero_right, Nat.xor_zero, h5, hqe x hx, rmul_xor_right (x ^^^ a) (ev q x (n + 1)), rmul_comm (x ^^^ a) (rmul (f (n + 2)) (rpow x (n + 1))) (xor_lt8 hx ha) (rmul_lt _ _), Nat.xor_assoc, Nat.xor_comm (ev g a (n + 2)), ← Nat.xor_assoc]
/-- as many places as the degree and one more: no top -/
theorem root_count (m : Nat) : ∀ (f : Nat → Nat) (X : Nat → Nat), Bd f → (∀ j, j ≤ m → X j < 256) → (∀ i j, i ≤ m → j ≤ m → X i = X j → i = j) → (∀ j, j ≤ m → ev f (X j) (m + 1) = 0) → f m = 0 := by
  induction m with
  | zero =>
    intro f X hf hX _ h
    have h0 := h 0 (Nat.le_refl _)
    simp only [ev] at h0
    rw [rpow_zero, rmul_one _ (hf 0), Nat.zero_xor] at h0
    exact h0
  | succ m ih =>
    intro f X hf hX hinj h
    obtain ⟨q, hq, hqt, hqe⟩ := root_div (X (m + 1)) (hX _ (Nat.le_refl _)) m f hf
    rw [← hqt]
    refine ih q X hq (fun j hj => hX j (by omega)) (fun i j hi hj => hinj i j (by omega) (by omega)) (fun j hj => ?_)
    have h1 := hqe (X j) (hX j (by omega))
    have h2 := h j (by omega)
    have h3 := h (m + 1) (Nat.le_refl _)
    rw [show m + 1 + 1 = m + 2 from rfl] at h2 h3
    rw [h2, h3, Nat.xor_zero] at h1
    refine Decidable.byContradiction fun hne => ?_
    refine rmul_ne (X j ^^^ X (m + 1)) (ev q (X j) (m + 1)) (xor_lt8 (hX j (by omega)) (hX _ (Nat.le_refl _))) (ev_lt _ _ _) (fun he => ?_) hne h1.symm
    have := hinj j (m + 1) (by omega) (Nat.le_refl _) (xor_zero_eq he)
    omega
theorem ev_sm (f : Nat → Nat) (x n : Nat) : ev f x n = sm (fun i => rmul (f i) (rpow x i)) n := by
  induction n with
  | zero => rfl
  | succ n ih => rw [ev, sm, ih]
/-- each step finds its pivot -/
theorem pow_pivots (J : Nat → Nat) (n : Nat) (hJ : ∀ i, i < n → J i < 256) (hinj : ∀ i j, i < n → j < n → J i = J j → i = j) (i : Nat) (hi : i < n) : pvF (ivS (fun r c => rpow (J r) c) n i).1 i n i < n := by
  induction i using Nat.strongRecOn with
  | ind i ih =>
  have hp : ∀ j, j < i → pvF (ivS (fun r c => rpow (J r) c) n j).1 j n j < n := fun j hj => ih j hj (by omega)
  have hF : Bd2 (fun r c => rpow (J r) c) := fun _ _ => rpow_lt _ _
  refine Decidable.byContradiction fun hno => ?_
  obtain ⟨p1, p2, p3, p4⟩ := pv_facts (ivS (fun r c => rpow (J r) c) n i).1 i n i (by omega)
  have pe : pvF (ivS (fun r c => rpow (J r) c) n i).1 i n i = n := by omega
  rw [pe] at p4
  have hcols := fun r j hr hj => iv_cols _ hF n i hp (by omega) r j hr hj
  obtain ⟨G, hG, hGE⟩ := iv_left _ hF n i hp (by omega)
  have hprod := fun r c hr => iv_prod _ hF n i r c hr hp (by omega)
  obtain ⟨hM, hE⟩ := iv_bd _ hF n i
  generalize (ivS (fun r c => rpow (J r) c) n i).1 = M at *
  generalize (ivS (fun r c => rpow (J r) c) n i).2 = E at *
  -- a vector that M takes to 0
  obtain ⟨v, hv⟩ : ∃ v : Nat → Nat → Nat, ∀ c z, v c z = if c < i then M c i else if c = i then 1 else 0 := ⟨_, fun _ _ => rfl⟩
  have hvb : Bd2 v := fun c z => by rw [hv]; split; exact hM _ _; split <;> omega
  have hMv : ∀ r, r < n → mlF M v n r 0 = 0 := fun r hr => by
    have e : ∀ m, m < n → rmul (M r m) (v m 0) = (if m = r then (if r < i then M r i else 0) else 0) ^^^ (if m = i then M r i else 0) := fun m hm => by
      rw [hv]
      by_cases h1 : m < i
      · rw [if_pos h1, hcols r m hr h1, id_val, if_neg (show ¬ m = i by omega), Nat.xor_zero]
        by_cases h2 : m = r
        · subst h2
          rw [if_pos rfl, if_pos rfl, if_pos h1, one_mul8 _ (hM _ _)]
        · rw [if_neg (fun e => h2 e.symm), if_neg h2, rmul_zero_left]
      · rw [if_neg h1]
        by_cases h2 : m = i
        · subst h2
          rw [if_pos rfl, if_pos rfl, rmul_one _ (hM _ _)]
          by_cases h3 : m = r
          · subst h3
            rw [if_pos rfl, if_neg h1, Nat.zero_xor]
          · rw [if_neg h3, Nat.zero_xor]
        · rw [if_neg h2, if_neg h2, rmul_zero_right, Nat.xor_zero]
          by_cases h3 : m = r
          · subst h3
            rw [if_pos rfl, if_neg h1]
          · rw [if_neg h3]
    unfold mlF
    rw [dt_sm, sm_congr _ _ n e, sm_xor, sm_one, sm_one, if_pos hr, if_pos hi]
    by_cases h1 : r < i
    · rw [if_pos h1, Nat.xor_self]
    · rw [if_neg h1, Nat.zero_xor]
      exact p4 r (by omega) hr
  have hFv : ∀ r, r < n → ev (fun c => v c 0) (J r) n = 0 := fun r hr => by
    have e0 : ev (fun c => v c 0) (J r) n = mlF (fun r c => rpow (J r) c) v n r 0 := by
      unfold mlF
      rw [dt_sm, ev_sm]
      exact sm_congr _ _ _ (fun m _ => rmul_comm _ _ (hvb _ _) (rpow_lt _ _))
    have e1 : mlF (fun r c => rpow (J r) c) v n r 0 = mlF (mlF G E n) (mlF (fun r c => rpow (J r) c) v n) n r 0 := by
      rw [ml_congr (mlF G E n) idF _ _ n r 0 (fun m hm => hGE r m hr hm) (fun _ _ => rfl), ml_id_l _ (ml_bd _ _ _) n r 0 hr]
    rw [e0, e1, ml_assoc G E _ hG hE (ml_bd _ _ _)]
    have e2 : ∀ m, m < n → mlF E (mlF (fun r c => rpow (J r) c) v n) n m 0 = 0 := fun m hm => by
      rw [← ml_assoc E _ v hE hF hvb, ml_congr _ M v v n m 0 (fun j _ => hprod m j hm) (fun _ _ => rfl)]
      exact hMv m hm
    unfold mlF at e2 ⊢
    rw [dt_sm, sm_congr _ (fun _ => 0) n (fun m hm => by rw [e2 m hm, rmul_zero_right]), sm_zero]
  have hz : Zr (i + 1) (fun c => v c 0) := fun c hc => by dsimp only; rw [hv, if_neg (by omega), if_neg (by omega)]
  have h0 := root_count i (fun c => v c 0) J (fun c => hvb c 0) (fun j hj => hJ j (by omega)) (fun a b ha hb => hinj a b (by omega) (by omega)) (fun j hj => by
    rw [← ev_stop (fun c => v c 0) (J j) (i + 1) n hz (by omega)]
    exact hFv j (by omega))
  rw [hv, if_neg (by omega), if_pos rfl] at h0
  omega
end Go.Proofs.Ytkcalgolanpjaaa

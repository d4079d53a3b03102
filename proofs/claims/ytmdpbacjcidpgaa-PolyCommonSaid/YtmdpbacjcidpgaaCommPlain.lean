/- What divides what, among polynomials over the field: products are associative, a rest of what is divided is nothing. No program is in sight. -/
import Derived.Test.YtmdpbacjcidpgaaPolyPlain
namespace Go.Proofs.Ytmdpbacjcidpgaa
/-- moved up by i places, and scaled -/
def shF (i c : Nat) (s : Nat → Nat) (j : Nat) : Nat := if i ≤ j then rmul c (s (j - i)) else 0
theorem cvs_sh (i c : Nat) (s e : Nat → Nat) (k n : Nat) (hc : c < 256) (hs : Bd s) (he : Bd e) (hk : i ≤ k) (hn : n ≤ k - i + 1) : cvs (shF i c s) e k (i + n) = rmul c (cvs s e (k - i) n) := by
  induction n with
  | zero =>
    have : ∀ m, m ≤ i → cvs (shF i c s) e k m = 0 := by
      intro m
      induction m with
      | zero => intro _; rfl
      | succ m ih =>
        intro hm
        rw [cvs, ih (by omega), show shF i c s m = 0 from if_neg (by omega), rmul_zero_left]
        split <;> rfl
    rw [Nat.add_zero, this i (Nat.le_refl _), show cvs s e (k - i) 0 = 0 from rfl, rmul_zero_right]
  | succ n ih =>
    rw [← Nat.add_assoc, cvs, ih (by omega), cvs, if_pos (by omega), if_pos (by omega), rmul_xor_right]
    congr 1
    rw [show shF i c s (i + n) = rmul c (s n) from by unfold shF; rw [if_pos (by omega), Nat.add_sub_cancel_left], show k - (i + n) = k - i - n by omega, rmul_assoc _ _ _ hc (hs n) (he _)]
theorem cv_sh (i c : Nat) (s e : Nat → Nat) (k : Nat) (hc : c < 256) (hs : Bd s) (he : Bd e) : cv (shF i c s) e k = shF i c (cv s e) k := by
  by_cases hk : i ≤ k
  · have h := cvs_sh i c s e k (k - i + 1) hc hs he hk (Nat.le_refl _)
    rw [show i + (k - i + 1) = k + 1 by omega] at h
    unfold shF
    rw [if_pos hk]
    exact h
  · have : ∀ m, m ≤ k + 1 → cvs (shF i c s) e k m = 0 := by
      intro m
      induction m with
      | zero => intro _; rfl
      | succ m ih =>
        intro hm
        rw [cvs, ih (by omega), show shF i c s m = 0 from if_neg (by omega), rmul_zero_left]
        split <;> rfl
    unfold cv
    rw [this _ (Nat.le_refl _)]
    unfold shF
    rw [if_neg hk]
def xrF (f g : Nat → Nat) (i : Nat) : Nat := f i ^^^ g i
theorem cv_xor_left (f g e : Nat → Nat) (k : Nat) : cv (xrF f g) e k = cv f e k ^^^ cv g e k := by
  have : ∀ n, cvs (xrF f g) e k n = cvs f e k n ^^^ cvs g e k n := by
    intro n
    induction n with
    | zero => exact (Nat.xor_zero 0).symm
    | succ n ih =>
      rw [cvs, cvs, cvs, ih]
      by_cases h : n ≤ k
      · rw [if_pos h, if_pos h, if_pos h, show xrF f g n = f n ^^^ g n from rfl, rmul_xor_left, xor4]
      · rw [if_neg h, if_neg h, if_neg h, Nat.xor_zero, Nat.xor_zero, Nat.xor_zero]
  exact this _
theorem cv_left_zero (f e : Nat → Nat) (k : Nat) (h : ∀ i, f i = 0) : cv f e k = 0 := by
  have : ∀ n, cvs f e k n = 0 := by
    intro n
    induction n with
    | zero => rfl
    | succ n ih => rw [cvs, ih, h n, rmul_zero_left]; split <;> rfl
  exact this _
theorem cv_right_zero (f e : Nat → Nat) (k : Nat) (h : ∀ i, e i = 0) : cv f e k = 0 := by
  have : ∀ n, cvs f e k n = 0 := by
    intro n
    induction n with
    | zero => rfl
    | succ n ih => rw [cvs, ih, h, rmul_zero_right]; split <;> rfl
  exact this _
theorem cv_fun_left {f f' : Nat → Nat} (e : Nat → Nat) (k : Nat) (h : ∀ i, f i = f' i) : cv f e k = cv f' e k := by rw [show f = f' from funext h]
theorem cv_fun_right {e e' : Nat → Nat} (f : Nat → Nat) (k : Nat) (h : ∀ i, e i = e' i) : cv f e k = cv f e' k := by rw [show e = e' from funext h]
theorem cv_assoc (s e : Nat → Nat) (hs : Bd s) (he : Bd e) (N : Nat) : ∀ q : Nat → Nat, Bd q → Zr N q → ∀ k, cv (cv q s) e k = cv q (cv s e) k := by
  induction N with
  | zero =>
    intro q _ hz k
    have h0 : ∀ i, q i = 0 := fun i => hz i (Nat.zero_le _)
    rw [cv_left_zero q _ k h0, cv_left_zero (cv q s) e k (fun i => cv_left_zero q s i h0)]
  | succ N ih =>
    intro q hq hz k
    have hq0 : Bd (upd q N 0) := fun j => by unfold upd; split; decide; exact hq j
    have hz0 : Zr N (upd q N 0) := fun j hj => by
      unfold upd
      by_cases e : j = N
      · rw [if_pos e]
      · rw [if_neg e]; exact hz j (by omega)
    have h0 : upd q N 0 N = 0 := if_pos rfl
    have hqe : ∀ j, q j = upd (upd q N 0) N (q N) j := fun j => by
      unfold upd
      by_cases e : j = N
      · rw [if_pos e, e]
      · rw [if_neg e, if_neg e]
    have e1 : ∀ j, cv q s j = xrF (cv (upd q N 0) s) (shF N (q N) s) j := fun j => by
      rw [cv_fun_left s j hqe, cv_upd _ s N (q N) j h0]; rfl
    rw [cv_fun_left e k e1, cv_xor_left, ih _ hq0 hz0 k, cv_sh N (q N) s e k (hq N) hs he]
    rw [cv_fun_left (cv s e) k hqe, cv_upd _ (cv s e) N (q N) k h0]
    rfl
/-- e divides x -/
def Dv (e x : Nat → Nat) : Prop := ∃ (s : Nat → Nat) (N : Nat), Bd s ∧ Zr N s ∧ ∀ k, x k = cv s e k
theorem dv_zero (e x : Nat → Nat) (h : ∀ k, x k = 0) : Dv e x := ⟨fun _ => 0, 0, fun _ => (by decide : 0 < 256), fun _ _ => rfl, fun k => by rw [h k, cv_left_zero _ e k (fun _ => rfl)]⟩
def monF (c j : Nat) : Nat := if j = 0 then c else 0
theorem mon_bd (c : Nat) (h : c < 256) : Bd (monF c) := fun j => by unfold monF; split <;> omega
theorem mon_zr (c : Nat) : Zr 1 (monF c) := fun j h => by unfold monF; rw [if_neg (by omega)]
theorem cv_mon (c : Nat) (e : Nat → Nat) (k : Nat) : cv (monF c) e k = rmul c (e k) := by
  have h : ∀ j, monF c j = upd (fun _ => 0) 0 c j := fun j => rfl
  rw [cv_fun_left e k h, cv_upd (fun _ => 0) e 0 c k rfl, cv_left_zero _ e k (fun _ => rfl), if_pos (Nat.zero_le _), Nat.zero_xor, Nat.sub_zero]
theorem one_rmul (a : Nat) (h : a < 256) : rmul 1 a = a := by rw [rmul_comm 1 a (by decide) h, rmul_one a h]
theorem dv_refl (e : Nat → Nat) (he : Bd e) : Dv e e := ⟨monF 1, 1, mon_bd 1 (by decide), mon_zr 1, fun k => by rw [cv_mon, one_rmul _ (he k)]⟩
theorem dv_xor (e x y : Nat → Nat) (h1 : Dv e x) (h2 : Dv e y) : Dv e (xrF x y) := by
  obtain ⟨s, N, a1, a2, a3⟩ := h1
  obtain ⟨t, M, b1, b2, b3⟩ := h2
  exact ⟨xrF s t, max N M, fun j => xor_lt8 (a1 j) (b1 j), fun j hj => by unfold xrF; rw [a2 j (by omega), b2 j (by omega)]; rfl, fun k => by rw [cv_xor_left, ← a3, ← b3]; rfl⟩
theorem dv_cv (e x q : Nat → Nat) (N : Nat) (he : Bd e) (hq : Bd q) (hz : Zr N q) (h : Dv e x) : Dv e (cv q x) := by
  obtain ⟨s, M, a1, a2, a3⟩ := h
  exact ⟨cv q s, N + M, cv_bd q s, fun k hk => cv_zr q s N M k hz a2 (by omega), fun k => by rw [cv_assoc s e a1 he N q hq hz k]; exact cv_fun_right q k a3⟩
theorem dv_congr (e x y : Nat → Nat) (h : Dv e x) (hxy : ∀ k, y k = x k) : Dv e y := by
  obtain ⟨s, M, a1, a2, a3⟩ := h
  exact ⟨s, M, a1, a2, fun k => by rw [hxy k, a3 k]⟩
theorem dv_trans (d e x : Nat → Nat) (hd : Bd d) (h1 : Dv d e) (h2 : Dv e x) : Dv d x := by
  obtain ⟨s, M, a1, a2, a3⟩ := h2
  exact dv_congr d _ x (dv_cv d e s M hd a1 a2 h1) a3
/-- what a polynomial divides leaves no rest by it -/
theorem rest_none (x d q r : Nat → Nat) (b N nr : Nat) (hd : Bd d) (hzd : Zr (b + 1) d) (ht : d b ≠ 0) (hq : Bd q) (hzq : Zr N q) (hr : Zr nr r) (hnr : nr < b + 1) (he : ∀ k, x k = cv q d k ^^^ r k) (h : Dv d x) : ∀ k, r k = 0 := by
  obtain ⟨s, M, a1, a2, a3⟩ := h
  have hu : ∀ k, r k = cv (xrF s q) d k := fun k => by
    rw [cv_xor_left, ← a3 k, he k, Nat.xor_comm (cv q d k) (r k), Nat.xor_assoc, Nat.xor_self, Nat.xor_zero]
  have hub : Bd (xrF s q) := fun j => xor_lt8 (a1 j) (hq j)
  have huz : Zr (max M N) (xrF s q) := fun j hj => by unfold xrF; rw [a2 j (by omega), hzq j (by omega)]; rfl
  by_cases h0 : td (xrF s q) (max M N) = 0
  · intro k
    have hz := td_zr _ _ huz
    rw [h0] at hz
    rw [hu k, cv_left_zero _ d k (fun i => hz i (Nat.zero_le _))]
  · exfalso
    obtain ⟨a, ha⟩ : ∃ a, td (xrF s q) (max M N) = a + 1 := ⟨td (xrF s q) (max M N) - 1, by omega⟩
    have hz := td_zr _ _ huz
    have htop := td_top (xrF s q) (max M N) (by omega)
    rw [ha] at hz htop
    rw [Nat.add_sub_cancel] at htop
    have h1 := cv_top (xrF s q) d a b hz hzd
    have h2 := hr (a + b) (by omega)
    rw [hu (a + b), h1] at h2
    exact rmul_ne _ _ (hub a) (hd b) htop ht h2
/-- a step of Euclid's: what divides two, divides the rest; and back -/
theorem eu_down (e a b q r : Nat → Nat) (N : Nat) (he : Bd e) (hq : Bd q) (hz : Zr N q) (h : ∀ k, a k = cv q b k ^^^ r k) (h1 : Dv e a) (h2 : Dv e b) : Dv e r :=
  dv_congr e _ r (dv_xor e _ _ h1 (dv_cv e b q N he hq hz h2)) (fun k => by unfold xrF; rw [h k, Nat.xor_comm, ← Nat.xor_assoc, Nat.xor_self, Nat.zero_xor])
theorem eu_up (e a b q r : Nat → Nat) (N : Nat) (he : Bd e) (hq : Bd q) (hz : Zr N q) (h : ∀ k, a k = cv q b k ^^^ r k) (h1 : Dv e b) (h2 : Dv e r) : Dv e a :=
  dv_congr e _ a (dv_xor e _ _ (dv_cv e b q N he hq hz h1) h2) (fun k => h k)
theorem dv_none (e x : Nat → Nat) (he : ∀ k, e k = 0) (h : Dv e x) : ∀ k, x k = 0 := by
  obtain ⟨s, M, a1, a2, a3⟩ := h
  exact fun k => by rw [a3 k, cv_right_zero s e k he]
end Go.Proofs.Ytmdpbacjcidpgaa

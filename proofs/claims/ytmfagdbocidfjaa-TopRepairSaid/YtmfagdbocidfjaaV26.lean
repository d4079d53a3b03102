import Derived.Test.YtmfagdbocidfjaaV22
import Derived.Test.YtmfagdbocidfjaaV02
import Derived.Test.YtmfagdbocidfjaaV19
import Derived.Test.YtmfagdbocidfjaaV17
/- The contract of package matrix's Apply where it refuses. -/
namespace Go.Proofs.Ytmfagdbocidfjaa
open Go.RowKit
set_option maxRecDepth 100000 in
theorem LensAt.get {w : World} {s : Option Addr} {m i : Nat} {L : Nat → Nat} (h : LensAt w s m L) (hi : i < m) : ∃ b off a k, s = some ⟨b, off, none⟩ ∧ w.cell? ⟨b, off + i, none⟩ = some (.slice a (L i) k) := h i hi
attribute [local irreducible] gexp gtbl glog rmul rinv rpow zexp mixF blk wLoad wLoadRes loadAns wStore wStoreRes storeAns Plain flF BRow MRow MAt By IsGf dtF nK RowsAt LensAt
attribute [local go_sem ↓] ld_m0 sto_m0
attribute [local go_sem] ld_m sto_m loadAns_some storeAns_some mx_size mx_plain blk_alloc_if blk_setRow_if blk_drew_at blk_drewN_at rowPut_some blk_setCell_if cellPut_some
set_option maxRecDepth 100000 in
set_option maxHeartbeats 4000000 in
theorem m_apply_no (p : Value) (r c : Int) (a s : Option Addr) (len cap m scap : Nat) (w : World) (h : rightB r c len = false ∨ (m : Int) ≠ c) :
    Calls Try.prog 103 #[p, .agg #[.int .i64 r, .int .i64 c, .slice a len cap], .slice s m scap] w (ApNo w 50) := by
  have hB := below_one w (.cells #[.int .i64 r, .int .i64 c, .slice a len cap] 188)
  have h0 := last_block0 w (.cells #[.int .i64 r, .int .i64 c, .slice a len cap] 188) _ rfl
  have hsz : w.heap.size < (w.alloc (.cells #[.int .i64 r, .int .i64 c, .slice a len cap] 188)).heap.size := by show _ < (w.heap.push _).size; rw [Array.size_push]; omega
  have krt := Lib.hid (fun y => m_right r c a len cap y)
  obtain ⟨b, hb⟩ : ∃ b, rightB r c len = b := ⟨_, rfl⟩
  rw [hb] at krt h
  clear hb
  go_enter Try.func103, Try.ntmps103
  go_upto_region 1 with (fail)
  generalize World.alloc w _ = W at *
  have h0h := Lib.hid (blk_of h0)
  have hBh := Lib.hid hB
  have b0 := h0h.out
  clear h0 hB
  go_wp2_with fail
  refine (krt.out W).mono ?_
  rintro e w2 ⟨rfl, hb2⟩
  have b2 := (blk_below hb2 hsz).trans h0h.out
  have c1 : w2.cell? ⟨w.heap.size, 1, none⟩ = some (.int .i64 c) := (cell_of_block (blk_heap b2)).trans rfl
  have hB2 := Lib.hid (hBh.out.trans (hb2.mono (Nat.le_of_lt hsz)))
  clear hb2 b0
  cases b with
  | false =>
    clear h
    go_wp2_with fail
    go_ret2
    exact ⟨rfl, hB2.out⟩
  | true =>
    have hne := beq_i (h.resolve_left (by simp))
    clear h
    go_wp2_with fail
    go_ret2
    exact ⟨rfl, hB2.out⟩
set_option maxRecDepth 100000 in
set_option maxHeartbeats 4000000 in
theorem m_apply_len (p : Value) (R C q : Nat) (a s : Option Addr) (cap scap : Nat) (L : Nat → Nat) (w : World) (hs : LensAt w s C L) (hR : R ≤ 255) (hC : C ≤ 255) (hq0 : 0 < q) (hq : q < C) (hb : ∀ j, j < q → L j = L 0) (hne : L q ≠ L 0) :
    Calls Try.prog 103 #[p, .agg #[.int .i64 (R : Nat), .int .i64 (C : Nat), .slice a (R * C) cap], .slice s C scap] w (ApNo w 61) := by
  have hB := below_one w (.cells #[.int .i64 (R : Nat), .int .i64 (C : Nat), .slice a (R * C) cap] 188)
  have h0 := last_block0 w (.cells #[.int .i64 (R : Nat), .int .i64 (C : Nat), .slice a (R * C) cap] 188) _ rfl
  have hsz : w.heap.size < (w.alloc (.cells #[.int .i64 (R : Nat), .int .i64 (C : Nat), .slice a (R * C) cap] 188)).heap.size := by show _ < (w.heap.push _).size; rw [Array.size_push]; omega
  have hsh := Lib.hid hs
  have hbh := Lib.hid hb
  have hneh := Lib.hid hne
  have krt := Lib.hid (fun y => right_nat R C hR hC ▸ m_right R C a (R * C) cap y)
  obtain ⟨N, hNe⟩ : ∃ N, R * C = N := ⟨_, rfl⟩
  rw [hNe] at krt h0 hB hsz ⊢
  clear hs hb hne hNe
  have t2 := bne_cast_f C
  obtain ⟨n, hn⟩ : ∃ n, L 0 = n := ⟨_, rfl⟩
  rw [hn] at hbh hneh
  clear hn
  go_enter Try.func103, Try.ntmps103
  go_upto_region 1 with (fail)
  generalize World.alloc w _ = W at *
  have h0h := Lib.hid (blk_of h0)
  have hBh := Lib.hid hB
  have b0 := h0h.out
  clear h0 hB
  go_wp2_with fail
  refine (krt.out W).mono ?_
  rintro e w2 ⟨rfl, hb2⟩
  have b2 := (blk_below hb2 hsz).trans h0h.out
  have c1 : w2.cell? ⟨w.heap.size, 1, none⟩ = some (.int .i64 (C : Nat)) := (cell_of_block (blk_heap b2)).trans rfl
  have hB2 := Lib.hid (hBh.out.trans (hb2.mono (Nat.le_of_lt hsz)))
  have hs2 := Lib.hid (hsh.out.below hB2.out)
  clear hb2 b0
  go_upto_region 5 with (fail)
  clear t2 c1
  go_loop [8, 27] (fun v8 v27 => ∃ i : Nat, i ≤ q ∧ v27 = .int .i64 (i : Nat) ∧ v8 = .int .i64 (nK n i : Nat)) (fun _ v27 => C - (intOf v27).toNat)
  case atStart => exact ⟨0, Nat.zero_le _, rfl, by rw [nK_zero]⟩
  case round =>
    obtain ⟨i, hi, rfl, rfl⟩ := hrel
    have i1 : (i : Int) < (C : Int) := by omega
    obtain ⟨bb, oo, xx, kk, hse, hcc⟩ := hs2.out.get (show i < C by omega)
    subst hse
    have hnx := Lib.hid (nK_succ n i)
    by_cases hiq : i < q
    · rw [hbh.out i hiq] at hcc
      by_cases hi0 : 0 < i
      · have e0 : decide ((0 : Int) < (i : Int)) = true := decide_eq_true (by omega)
        have e1 : decide (0 < i) = true := decide_eq_true hi0
        rw [nK_pos n i hi0]
        have e2 := bne_cast_f n
        go_wp2_with fail
        go_round
        case rel => exact ⟨i + 1, by omega, by go_num, by rw [hnx.out]⟩
        case measure => simp [intOf]; omega
      · have e0 : decide ((0 : Int) < (i : Int)) = false := decide_eq_false (by omega)
        have e1 : decide (0 < i) = false := decide_eq_false hi0
        go_wp2_with fail
        go_round
        case rel => exact ⟨i + 1, by omega, by go_num, by rw [hnx.out]⟩
        case measure => simp [intOf]; omega
    · obtain rfl : i = q := by omega
      have e0 : decide ((0 : Int) < (i : Int)) = true := decide_eq_true (by omega)
      have e1 : decide (0 < i) = true := decide_eq_true hq0
      rw [nK_pos n i hq0]
      have hne := hneh.out
      obtain ⟨y, hy⟩ : ∃ y, L i = y := ⟨_, rfl⟩
      rw [hy] at hne hcc
      have e2 : (((y : Nat) : Int) != (n : Int)) = true := by simp [bne]; omega
      have e3 : (y != n) = true := by simp [bne]; omega
      clear hy hne
      go_wp2_with fail
      go_ret2
      exact ⟨rfl, hB2.out⟩
end Go.Proofs.Ytmfagdbocidfjaa

/- Polynomials over the field as functions from places to coefficients: their tops, products, values, division. No program is in sight. -/
namespace Go.Proofs.Ytmfagdbocidfjaa
def Zr (n : Nat) (f : Nat → Nat) : Prop := ∀ i, n ≤ i → f i = 0
def Bd (f : Nat → Nat) : Prop := ∀ i, f i < 256
set_option maxRecDepth 100000 in
theorem Zr.mono {n m : Nat} {f : Nat → Nat} (h : Zr n f) (hm : n ≤ m) : Zr m f := fun i hi => h i (by omega)
/-- how many coefficients there are without the noughts at the end -/
def td (f : Nat → Nat) : Nat → Nat
  | 0 => 0
  | n + 1 => if f n = 0 then td f n else n + 1
set_option maxRecDepth 100000 in
theorem td_le (f : Nat → Nat) (n : Nat) : td f n ≤ n := by
  induction n with
  | zero => exact Nat.le_refl 0
  | succ n ih => simp only [td]; split <;> omega
set_option maxRecDepth 100000 in
theorem td_zero (f : Nat → Nat) (n i : Nat) (h : td f n ≤ i) (hi : i < n) : f i = 0 := by
  induction n with
  | zero => omega
  | succ n ih =>
    simp only [td] at h
    split at h
    · by_cases e : i = n
      · subst e; assumption
      · exact ih h (by omega)
    · omega
set_option maxRecDepth 100000 in
theorem td_top (f : Nat → Nat) (n : Nat) (h : 0 < td f n) : f (td f n - 1) ≠ 0 := by
  induction n with
  | zero => exact absurd h (by simp [td])
  | succ n ih =>
    simp only [td] at h ⊢
    split
    · rename_i e; rw [if_pos e] at h; exact ih h
    · rename_i e; rw [Nat.add_sub_cancel]; exact e
set_option maxRecDepth 100000 in
theorem td_zr (f : Nat → Nat) (n : Nat) (h : Zr n f) : Zr (td f n) f := fun i hi => by
  by_cases e : i < n
  · exact td_zero f n i hi e
  · exact h i (by omega)
set_option maxRecDepth 100000 in
theorem td_congr (f g : Nat → Nat) (n : Nat) (h : ∀ i, i < n → f i = g i) : td f n = td g n := by
  induction n with
  | zero => rfl
  | succ n ih => simp only [td]; rw [h n (by omega), ih fun i hi => h i (by omega)]
set_option maxRecDepth 100000 in
theorem td_uniq (f : Nat → Nat) (n m : Nat) (hz : ∀ i, m ≤ i → i < n → f i = 0) (ht : 0 < m → f (m - 1) ≠ 0) (hm : m ≤ n) : td f n = m := by
  induction n with
  | zero => simp only [td]; omega
  | succ n ih =>
    simp only [td]
    by_cases e : m = n + 1
    · subst e; rw [if_neg (by simpa using ht (by omega))]
    · rw [if_pos (hz n (by omega) (by omega)), ih (fun i h1 h2 => hz i h1 (by omega)) (by omega)]
set_option maxRecDepth 100000 in
theorem td_more (f : Nat → Nat) (n m : Nat) (h : Zr n f) (hm : n ≤ m) : td f m = td f n :=
  td_uniq f m (td f n) (fun i h1 _ => td_zr f n h i h1) (td_top f n) (Nat.le_trans (td_le f n) hm)
set_option maxRecDepth 100000 in
theorem xor_self' (a : Nat) : a ^^^ a = 0 := Nat.xor_self a
set_option maxRecDepth 100000 in
theorem xor_lt8 {a b : Nat} (ha : a < 256) (hb : b < 256) : a ^^^ b < 256 := Nat.xor_lt_two_pow (n := 8) ha hb
/-! ### products -/
def cvs (f g : Nat → Nat) (k : Nat) : Nat → Nat
  | 0 => 0
  | i + 1 => cvs f g k i ^^^ (if i ≤ k then rmul (f i) (g (k - i)) else 0)
def cv (f g : Nat → Nat) (k : Nat) : Nat := cvs f g k (k + 1)
set_option maxRecDepth 100000 in
theorem cvs_lt (f g : Nat → Nat) (k n : Nat) : cvs f g k n < 256 := by
  induction n with
  | zero => exact (by decide : 0 < 256)
  | succ n ih => simp only [cvs]; refine xor_lt8 ih ?_; split; exact rmul_lt _ _; decide
set_option maxRecDepth 100000 in
theorem cv_bd (f g : Nat → Nat) : Bd (cv f g) := fun k => cvs_lt f g k _
set_option maxRecDepth 100000 in
theorem cvs_big (f g : Nat → Nat) (k n : Nat) (h : k + 1 ≤ n) : cvs f g k n = cv f g k := by
  obtain ⟨d, rfl⟩ : ∃ d, n = k + 1 + d := ⟨n - (k + 1), by omega⟩
  induction d with
  | zero => rfl
  | succ d ih => rw [← Nat.add_assoc, cvs, ih (by omega), if_neg (by omega), Nat.xor_zero]
set_option maxRecDepth 100000 in
theorem cvs_stop (f g : Nat → Nat) (k n m : Nat) (h : Zr n f) (hm : n ≤ m) : cvs f g k m = cvs f g k n := by
  obtain ⟨d, rfl⟩ : ∃ d, m = n + d := ⟨m - n, by omega⟩
  induction d with
  | zero => rfl
  | succ d ih =>
    rw [← Nat.add_assoc, cvs, ih (by omega), h (n + d) (by omega), rmul_zero_left]
    split <;> exact Nat.xor_zero _
set_option maxRecDepth 100000 in
theorem cvs_all (f g : Nat → Nat) (k n : Nat) (h : Zr n f) : cvs f g k n = cv f g k := by
  by_cases e : k + 1 ≤ n
  · exact cvs_big f g k n e
  · exact (cvs_stop f g k n (k + 1) h (by omega)).symm
set_option maxRecDepth 100000 in
theorem cv_zr (f g : Nat → Nat) (n m k : Nat) (hf : Zr n f) (hg : Zr m g) (h : n + m ≤ k + 1) : cv f g k = 0 := by
  have : ∀ i, cvs f g k i = 0 := by
    intro i
    induction i with
    | zero => rfl
    | succ i ih =>
      rw [cvs, ih, Nat.zero_xor]
      split
      · by_cases e : i < n
        · rw [hg (k - i) (by omega), rmul_zero_right]
        · rw [hf i (by omega), rmul_zero_left]
      · rfl
  exact this _
set_option maxRecDepth 100000 in
theorem cv_top (f g : Nat → Nat) (n m : Nat) (hf : Zr (n + 1) f) (hg : Zr (m + 1) g) : cv f g (n + m) = rmul (f n) (g m) := by
  have h0 : ∀ i, i ≤ n → cvs f g (n + m) i = 0 := by
    intro i
    induction i with
    | zero => intro _; rfl
    | succ i ih => intro hi; rw [cvs, ih (by omega), Nat.zero_xor, if_pos (by omega), hg _ (by omega), rmul_zero_right]
  rw [← cvs_all f g (n + m) (n + 1) hf, cvs, h0 n (Nat.le_refl _), Nat.zero_xor, if_pos (by omega), Nat.add_sub_cancel_left]
set_option maxRecDepth 100000 in
theorem cvs_congr (f f' g g' : Nat → Nat) (k n : Nat) (hf : ∀ i, f i = f' i) (hg : ∀ i, g i = g' i) : cvs f g k n = cvs f' g' k n := by
  have e1 : f = f' := funext hf
  have e2 : g = g' := funext hg
  rw [e1, e2]
/-! ### values -/
def ev (f : Nat → Nat) (x : Nat) : Nat → Nat
  | 0 => 0
  | n + 1 => ev f x n ^^^ rmul (f n) (rpow x n)
set_option maxRecDepth 100000 in
theorem ev_lt (f : Nat → Nat) (x n : Nat) : ev f x n < 256 := by
  induction n with
  | zero => exact (by decide : 0 < 256)
  | succ n ih => exact xor_lt8 ih (rmul_lt _ _)
set_option maxRecDepth 100000 in
theorem ev_stop (f : Nat → Nat) (x n m : Nat) (h : Zr n f) (hm : n ≤ m) : ev f x m = ev f x n := by
  obtain ⟨d, rfl⟩ : ∃ d, m = n + d := ⟨m - n, by omega⟩
  induction d with
  | zero => rfl
  | succ d ih => rw [← Nat.add_assoc, ev, ih (by omega), h (n + d) (by omega), rmul_zero_left, Nat.xor_zero]
set_option maxRecDepth 100000 in
theorem ev_congr (f g : Nat → Nat) (x n : Nat) (h : ∀ i, i < n → f i = g i) : ev f x n = ev g x n := by
  induction n with
  | zero => rfl
  | succ n ih => rw [ev, ev, ih fun i hi => h i (by omega), h n (by omega)]
set_option maxRecDepth 100000 in
theorem ev_xor (f g : Nat → Nat) (x n : Nat) : ev (fun i => f i ^^^ g i) x n = ev f x n ^^^ ev g x n := by
  induction n with
  | zero => exact (Nat.xor_zero 0).symm
  | succ n ih => simp only [ev]; rw [ih, rmul_xor_left, xor4]
set_option maxRecDepth 100000 in
theorem rpow_add (x i n : Nat) (hx : x < 256) : rpow x (i + n) = rmul (rpow x i) (rpow x n) := by
  induction n with
  | zero => exact (rmul_one _ (rpow_lt x i)).symm
  | succ n ih => rw [← Nat.add_assoc, rpow_succ, rpow_succ, ih, rmul_assoc _ _ _ (rpow_lt x i) (rpow_lt x n) hx]
set_option maxRecDepth 100000 in
theorem ev_shift (g : Nat → Nat) (x c i n : Nat) (hx : x < 256) (hc : c < 256) (hg : Bd g) : ev (fun j => if i ≤ j then rmul c (g (j - i)) else 0) x (i + n) = rmul (rmul c (rpow x i)) (ev g x n) := by
  induction n with
  | zero =>
    have : ∀ m, m ≤ i → ev (fun j => if i ≤ j then rmul c (g (j - i)) else 0) x m = 0 := by
      intro m
      induction m with
      | zero => intro _; rfl
      | succ m ih => intro hm; rw [ev, ih (by omega), if_neg (by omega), rmul_zero_left]; rfl
    rw [Nat.add_zero, this i (Nat.le_refl _)]
    exact (rmul_zero_right _).symm
  | succ n ih =>
    rw [← Nat.add_assoc, ev, ih, ev]
    rw [if_pos (by omega), Nat.add_sub_cancel_left, rmul_xor_right, rpow_add x i n hx]
    congr 1
    rw [rmul_assoc _ _ _ (rmul_lt _ _) (rpow_lt x i) (rpow_lt x n), rmul_assoc _ _ _ (rmul_lt _ _) (hg n) (rpow_lt x n)]
    congr 1
    rw [← rmul_assoc _ _ _ hc (hg n) (rpow_lt x i), ← rmul_assoc _ _ _ hc (rpow_lt x i) (hg n), rmul_comm (g n) _ (hg n) (rpow_lt x i)]
set_option maxRecDepth 100000 in
theorem ev_cvs (f g : Nat → Nat) (x m N i : Nat) (hx : x < 256) (hf : Bd f) (hg : Bd g) (hm : Zr m g) (h : i + m ≤ N + 1) : ev (fun j => cvs f g j i) x N = rmul (ev f x i) (ev g x m) := by
  induction i with
  | zero =>
    rw [show ev f x 0 = 0 from rfl, rmul_zero_left]
    have : ∀ n, ev (fun j => cvs f g j 0) x n = 0 := by
      intro n
      induction n with
      | zero => rfl
      | succ n ih => rw [ev, ih, show cvs f g n 0 = 0 from rfl, rmul_zero_left]; rfl
    exact this N
  | succ i ih =>
    have e : ev (fun j => cvs f g j (i + 1)) x N = ev (fun j => cvs f g j i ^^^ (if i ≤ j then rmul (f i) (g (j - i)) else 0)) x N := ev_congr _ _ _ _ fun j _ => rfl
    rw [e, ev_xor, ih (by omega), ev, rmul_xor_left]
    congr 1
    by_cases hi : i ≤ N
    · obtain ⟨d, rfl⟩ : ∃ d, N = i + d := ⟨N - i, by omega⟩
      rw [ev_shift g x (f i) i d hx (hf i) hg]
      congr 1
      by_cases hd : m ≤ d
      · exact ev_stop g x m d hm hd
      · omega
    · omega
set_option maxRecDepth 100000 in
theorem ev_cv (f g : Nat → Nat) (x n m N : Nat) (hx : x < 256) (hf : Bd f) (hg : Bd g) (hn : Zr n f) (hm : Zr m g) (h : n + m ≤ N + 1) : ev (cv f g) x N = rmul (ev f x n) (ev g x m) := by
  rw [← ev_cvs f g x m N n hx hf hg hm h]
  exact ev_congr _ _ _ _ fun j _ => (cvs_all f g j n hn).symm
/-- Horner's way: s coefficients are taken in -/
def hv (f : Nat → Nat) (x n : Nat) : Nat → Nat
  | 0 => 0
  | s + 1 => rmul (hv f x n s) x ^^^ f (n - 1 - s)
set_option maxRecDepth 100000 in
theorem hv_lt (f : Nat → Nat) (x n s : Nat) (hf : Bd f) : hv f x n s < 256 := by
  cases s with
  | zero => exact (by decide : 0 < 256)
  | succ s => exact xor_lt8 (rmul_lt _ _) (hf _)
set_option maxRecDepth 100000 in
theorem hv_part (f : Nat → Nat) (x n s : Nat) (hx : x < 256) (hf : Bd f) (h : s ≤ n) : rmul (hv f x n s) (rpow x (n - s)) ^^^ ev f x (n - s) = ev f x n := by
  induction s with
  | zero => rw [show hv f x n 0 = 0 from rfl, rmul_zero_left, Nat.zero_xor, Nat.sub_zero]
  | succ s ih =>
    rw [← ih (by omega)]
    obtain ⟨k, hk⟩ : ∃ k, n - s = k + 1 := ⟨n - s - 1, by omega⟩
    rw [show n - (s + 1) = k by omega, hk, hv, show n - 1 - s = k by omega, ev, rmul_xor_left, rpow_succ, rmul_comm (rpow x k) x (rpow_lt x k) hx, rmul_assoc _ _ _ (hv_lt f x n s hf) hx (rpow_lt x k), Nat.xor_assoc, Nat.xor_comm (rmul (f k) (rpow x k))]
set_option maxRecDepth 100000 in
theorem hv_all (f : Nat → Nat) (x n : Nat) (hx : x < 256) (hf : Bd f) : hv f x n n = ev f x n := by
  have h := hv_part f x n n hx hf (Nat.le_refl _)
  rw [Nat.sub_self, rpow_zero, rmul_one _ (hv_lt f x n n hf), show ev f x 0 = 0 from rfl, Nat.xor_zero] at h
  exact h
/-! ### division -/
def upd (q : Nat → Nat) (i c j : Nat) : Nat := if j = i then c else q j
set_option maxRecDepth 100000 in
theorem cvs_upd (q b : Nat → Nat) (i c k n : Nat) (hq : q i = 0) : cvs (upd q i c) b k n = cvs q b k n ^^^ (if i < n ∧ i ≤ k then rmul c (b (k - i)) else 0) := by
  induction n with
  | zero => rw [if_neg (by omega)]; exact (Nat.xor_zero _).symm
  | succ n ih =>
    rw [cvs, cvs, ih]
    by_cases e : n = i
    · subst e
      rw [if_neg (by omega), Nat.xor_zero]
      unfold upd
      rw [if_pos rfl, hq, rmul_zero_left]
      by_cases h : n ≤ k
      · simp [h]
      · simp [h]
    · rw [show upd q i c n = q n from if_neg e]
      have hc : (if i < n + 1 ∧ i ≤ k then rmul c (b (k - i)) else 0) = (if i < n ∧ i ≤ k then rmul c (b (k - i)) else 0) := by
        by_cases h : i < n ∧ i ≤ k
        · rw [if_pos h, if_pos ⟨by omega, h.2⟩]
        · rw [if_neg h, if_neg (by omega)]
      rw [hc, Nat.xor_assoc, Nat.xor_assoc, Nat.xor_comm (if i < n ∧ i ≤ k then _ else _)]
set_option maxRecDepth 100000 in
theorem cv_upd (q b : Nat → Nat) (i c k : Nat) (hq : q i = 0) : cv (upd q i c) b k = cv q b k ^^^ (if i ≤ k then rmul c (b (k - i)) else 0) := by
  unfold cv
  rw [cvs_upd q b i c k (k + 1) hq]
  congr 1
  by_cases h : i ≤ k
  · rw [if_pos h, if_pos ⟨by omega, h⟩]
  · rw [if_neg h, if_neg (fun h2 => h h2.2)]
set_option maxRecDepth 100000 in
/-- a quotient by what isn't 0, times it -/
theorem div_mul (a b : Nat) (ha : a < 256) (hb : b < 256) (b0 : b ≠ 0) : rmul (rmul a (rinv b)) b = a := by
  rw [← rmul_assoc _ _ _ ha (rinv_lt b) hb, rmul_comm (rinv b) b (rinv_lt b) hb, rmul_rinv b hb b0, rmul_one a ha]
end Go.Proofs.Ytmfagdbocidfjaa

/- Any unlike rows of a matrix of powers: each step of Invert finds its pivot. Plain: a polynomial with more places where it is 0 than its degree has no top. -/
namespace Go.Proofs.Ytmfagdbocidfjaa
set_option maxRecDepth 100000 in
theorem pow_comm3 (a b c : Nat) (ha : a < 256) (hb : b < 256) (hc : c < 256) : rmul a (rmul b c) = rmul b (rmul a c) := by
  rw [rmul_assoc a b c ha hb hc, rmul_comm a b ha hb, ← rmul_assoc b a c hb ha hc]
set_option maxRecDepth 100000 in
theorem xor_zero_eq {a b : Nat} (h : a ^^^ b = 0) : a = b := by
  have : a ^^^ b ^^^ b = 0 ^^^ b := by rw [h]
  rw [Nat.xor_assoc, Nat.xor_self, Nat.xor_zero, Nat.zero_xor] at this
  exact this
set_option maxRecDepth 100000 in
/-- a polynomial, less its value, is a multiple of the distance; the top stays -/
theorem root_div (a : Nat) (ha : a < 256) (n : Nat) : ∀ f : Nat → Nat, Bd f → ∃ q, Bd q ∧ q n = f (n + 1) ∧ ∀ x, x < 256 → ev f x (n + 2) = rmul (x ^^^ a) (ev q x (n + 1)) ^^^ ev f a (n + 2) := by
  induction n with
  | zero =>
    intro f hf
    refine ⟨fun j => if j = 0 then f 1 else 0, fun j => by dsimp only; split; exact hf _; omega, rfl, fun x hx => ?_⟩
    have e1 : ∀ y, y < 256 → rpow y 1 = y := fun y hy => by rw [rpow_succ, rpow_zero, one_mul8 y hy]
    simp only [ev]
    rw [e1 x hx, e1 a ha, rpow_zero, rpow_zero]
    rw [if_pos True.intro]
    have e2 := rmul_one (f 0) (hf 0)
    have e3 := rmul_one (f 1) (hf 1)
    rw [e2, e3]
    simp only [Nat.zero_xor]
    rw [rmul_xor_left, rmul_comm x (f 1) hx (hf 1), rmul_comm a (f 1) ha (hf 1), Nat.xor_comm (f 0) (rmul (f 1) a), ← Nat.xor_assoc, Nat.xor_assoc (rmul (f 1) x), Nat.xor_self, Nat.xor_zero, Nat.xor_comm]
  | succ n ih =>
    intro f hf
    -- the top is taken off
    obtain ⟨g, hg⟩ : ∃ g : Nat → Nat, ∀ j, g j = if j = n + 1 then f (n + 1) ^^^ rmul a (f (n + 2)) else f j := ⟨_, fun _ => rfl⟩
    have hgb : Bd g := fun j => by rw [hg]; split; exact xor_lt8 (hf _) (rmul_lt _ _); exact hf _
    obtain ⟨q, hq, hqt, hqe⟩ := ih g hgb
    have hgn : g (n + 1) = f (n + 1) ^^^ rmul a (f (n + 2)) := by rw [hg, if_pos rfl]
    have hev : ∀ x, ev g x (n + 1) = ev f x (n + 1) := fun x => ev_congr _ _ _ _ (fun i hi => by rw [hg, if_neg (by omega)])
    have hfe : ∀ x, x < 256 → ev f x (n + 3) = ev g x (n + 2) ^^^ rmul (rmul (f (n + 2)) (rpow x (n + 1))) (x ^^^ a) := fun x hx => by
      have h1 : ev f x (n + 3) = ev f x (n + 1) ^^^ rmul (f (n + 1)) (rpow x (n + 1)) ^^^ rmul (f (n + 2)) (rpow x (n + 2)) := rfl
      have h2 : ev g x (n + 2) = ev g x (n + 1) ^^^ rmul (g (n + 1)) (rpow x (n + 1)) := rfl
      rw [h1, h2, hev, hgn, rmul_xor_left, rmul_xor_right]
      have h3 : rmul (f (n + 2)) (rpow x (n + 2)) = rmul (rmul (f (n + 2)) (rpow x (n + 1))) x := by
        rw [show n + 2 = (n + 1) + 1 from rfl, rpow_succ, rmul_assoc _ _ _ (hf _) (rpow_lt _ _) hx]
      have h4 : rmul (rmul a (f (n + 2))) (rpow x (n + 1)) = rmul (rmul (f (n + 2)) (rpow x (n + 1))) a := by
        rw [← rmul_assoc a _ _ ha (hf _) (rpow_lt _ _), rmul_comm a _ ha (rmul_lt _ _)]
      rw [h3, h4]
      generalize rmul (rmul (f (n + 2)) (rpow x (n + 1))) x = A
      generalize rmul (rmul (f (n + 2)) (rpow x (n + 1))) a = B
      generalize rmul (f (n + 1)) (rpow x (n + 1)) = C
      generalize ev f x (n + 1) = D
      rw [Nat.xor_comm A B, ← Nat.xor_assoc, ← Nat.xor_assoc, Nat.xor_assoc _ B B, Nat.xor_self, Nat.xor_zero]
    refine ⟨fun j => if j = n + 1 then f (n + 2) else q j, fun j => by dsimp only; split; exact hf _; exact hq _, by show (if n + 1 = n + 1 then f (n + 2) else q (n + 1)) = f (n + 1 + 1); rw [if_pos rfl], fun x hx => ?_⟩
    have h5 : ev (fun j => if j = n + 1 then f (n + 2) else q j) x (n + 2) = ev q x (n + 1) ^^^ rmul (f (n + 2)) (rpow x (n + 1)) := by
      show ev (fun j => if j = n + 1 then f (n + 2) else q j) x (n + 1) ^^^ rmul (if n + 1 = n + 1 then f (n + 2) else q (n + 1)) (rpow x (n + 1)) = _
      rw [if_pos rfl, ev_congr (fun j => if j = n + 1 then f (n + 2) else q j) q x (n + 1) (fun i hi => by rw [if_neg (by omega)])]
    rw [show n + 1 + 2 = n + 3 from rfl, show n + 1 + 1 = n + 2 from rfl, hfe x hx, hfe a ha, Nat.xor_self, rmul_zero_right, Nat.xor_zero, h5, hqe x hx, rmul_xor_right (x ^^^ a) (ev q x (n + 1)), rmul_comm (x ^^^ a) (rmul (f (n + 2)) (rpow x (n + 1))) (xor_lt8 hx ha) (rmul_lt _ _), Nat.xor_assoc, Nat.xor_comm (ev g a (n + 2)), ← Nat.xor_assoc]
set_option maxRecDepth 100000 in
/-- as many places as the degree and one more: no top -/
theorem root_count (m : Nat) : ∀ (f : Nat → Nat) (X : Nat → Nat), Bd f → (∀ j, j ≤ m → X j < 256) → (∀ i j, i ≤ m → j ≤ m → X i = X j → i = j) → (∀ j, j ≤ m → ev f (X j) (m + 1) = 0) → f m = 0 := by
  induction m with
  | zero =>
    intro f X hf hX _ h
    have h0 := h 0 (Nat.le_refl _)
    simp only [ev] at h0
    rw [rpow_zero, rmul_one _ (hf 0), Nat.zero_xor] at h0
    exact h0
  | succ m ih =>
    intro f X hf hX hinj h
    obtain ⟨q, hq, hqt, hqe⟩ := root_div (X (m + 1)) (hX _ (Nat.le_refl _)) m f hf
    rw [← hqt]
    refine ih q X hq (fun j hj => hX j (by omega)) (fun i j hi hj => hinj i j (by omega) (by omega)) (fun j hj => ?_)
    have h1 := hqe (X j) (hX j (by omega))
    have h2 := h j (by omega)
    have h3 := h (m + 1) (Nat.le_refl _)
    rw [show m + 1 + 1 = m + 2 from rfl] at h2 h3
    rw [h2, h3, Nat.xor_zero] at h1
    refine Decidable.byContradiction fun hne => ?_
    refine rmul_ne (X j ^^^ X (m + 1)) (ev q (X j) (m + 1)) (xor_lt8 (hX j (by omega)) (hX _ (Nat.le_refl _))) (ev_lt _ _ _) (fun he => ?_) hne h1.symm
    have := hinj j (m + 1) (by omega) (Nat.le_refl _) (xor_zero_eq he)
    omega
set_option maxRecDepth 100000 in
theorem ev_sm (f : Nat → Nat) (x n : Nat) : ev f x n = sm (fun i => rmul (f i) (rpow x i)) n := by
  induction n with
  | zero => rfl
  | succ n ih => rw [ev, sm, ih]
set_option maxRecDepth 100000 in
/-- each step finds its pivot -/
theorem pow_pivots (J : Nat → Nat) (n : Nat) (hJ : ∀ i, i < n → J i < 256) (hinj : ∀ i j, i < n → j < n → J i = J j → i = j) (i : Nat) (hi : i < n) : pvF (ivS (fun r c => rpow (J r) c) n i).1 i n i < n := by
  induction i using Nat.strongRecOn with
  | ind i ih =>
  have hp : ∀ j, j < i → pvF (ivS (fun r c => rpow (J r) c) n j).1 j n j < n := fun j hj => ih j hj (by omega)
  have hF : Bd2 (fun r c => rpow (J r) c) := fun _ _ => rpow_lt _ _
  refine Decidable.byContradiction fun hno => ?_
  obtain ⟨p1, p2, p3, p4⟩ := pv_facts (ivS (fun r c => rpow (J r) c) n i).1 i n i (by omega)
  have pe : pvF (ivS (fun r c => rpow (J r) c) n i).1 i n i = n := by omega
  rw [pe] at p4
  have hcols := fun r j hr hj => iv_cols _ hF n i hp (by omega) r j hr hj
  obtain ⟨G, hG, hGE⟩ := iv_left _ hF n i hp (by omega)
  have hprod := fun r c hr => iv_prod _ hF n i r c hr hp (by omega)
  obtain ⟨hM, hE⟩ := iv_bd _ hF n i
  generalize (ivS (fun r c => rpow (J r) c) n i).1 = M at *
  generalize (ivS (fun r c => rpow (J r) c) n i).2 = E at *
  -- a vector that M takes to 0
  obtain ⟨v, hv⟩ : ∃ v : Nat → Nat → Nat, ∀ c z, v c z = if c < i then M c i else if c = i then 1 else 0 := ⟨_, fun _ _ => rfl⟩
  have hvb : Bd2 v := fun c z => by rw [hv]; split; exact hM _ _; split <;> omega
  have hMv : ∀ r, r < n → mlF M v n r 0 = 0 := fun r hr => by
    have e : ∀ m, m < n → rmul (M r m) (v m 0) = (if m = r then (if r < i then M r i else 0) else 0) ^^^ (if m = i then M r i else 0) := fun m hm => by
      rw [hv]
      by_cases h1 : m < i
      · rw [if_pos h1, hcols r m hr h1, id_val, if_neg (show ¬ m = i by omega), Nat.xor_zero]
        by_cases h2 : m = r
        · subst h2
          rw [if_pos rfl, if_pos rfl, if_pos h1, one_mul8 _ (hM _ _)]
        · rw [if_neg (fun e => h2 e.symm), if_neg h2, rmul_zero_left]
      · rw [if_neg h1]
        by_cases h2 : m = i
        · subst h2
          rw [if_pos rfl, if_pos rfl, rmul_one _ (hM _ _)]
          by_cases h3 : m = r
          · subst h3
            rw [if_pos rfl, if_neg h1, Nat.zero_xor]
          · rw [if_neg h3, Nat.zero_xor]
        · rw [if_neg h2, if_neg h2, rmul_zero_right, Nat.xor_zero]
          by_cases h3 : m = r
          · subst h3
            rw [if_pos rfl, if_neg h1]
          · rw [if_neg h3]
    unfold mlF
    rw [dt_sm, sm_congr _ _ n e, sm_xor, sm_one, sm_one, if_pos hr, if_pos hi]
    by_cases h1 : r < i
    · rw [if_pos h1, Nat.xor_self]
    · rw [if_neg h1, Nat.zero_xor]
      exact p4 r (by omega) hr
  have hFv : ∀ r, r < n → ev (fun c => v c 0) (J r) n = 0 := fun r hr => by
    have e0 : ev (fun c => v c 0) (J r) n = mlF (fun r c => rpow (J r) c) v n r 0 := by
      unfold mlF
      rw [dt_sm, ev_sm]
      exact sm_congr _ _ _ (fun m _ => rmul_comm _ _ (hvb _ _) (rpow_lt _ _))
    have e1 : mlF (fun r c => rpow (J r) c) v n r 0 = mlF (mlF G E n) (mlF (fun r c => rpow (J r) c) v n) n r 0 := by
      rw [ml_congr (mlF G E n) idF _ _ n r 0 (fun m hm => hGE r m hr hm) (fun _ _ => rfl), ml_id_l _ (ml_bd _ _ _) n r 0 hr]
    rw [e0, e1, ml_assoc G E _ hG hE (ml_bd _ _ _)]
    have e2 : ∀ m, m < n → mlF E (mlF (fun r c => rpow (J r) c) v n) n m 0 = 0 := fun m hm => by
      rw [← ml_assoc E _ v hE hF hvb, ml_congr _ M v v n m 0 (fun j _ => hprod m j hm) (fun _ _ => rfl)]
      exact hMv m hm
    unfold mlF at e2 ⊢
    rw [dt_sm, sm_congr _ (fun _ => 0) n (fun m hm => by rw [e2 m hm, rmul_zero_right]), sm_zero]
  have hz : Zr (i + 1) (fun c => v c 0) := fun c hc => by dsimp only; rw [hv, if_neg (by omega), if_neg (by omega)]
  have h0 := root_count i (fun c => v c 0) J (fun c => hvb c 0) (fun j hj => hJ j (by omega)) (fun a b ha hb => hinj a b (by omega) (by omega)) (fun j hj => by
    rw [← ev_stop (fun c => v c 0) (J j) (i + 1) n hz (by omega)]
    exact hFv j (by omega))
  rw [hv, if_neg (by omega), if_pos rfl] at h0
  omega
end Go.Proofs.Ytmfagdbocidfjaa

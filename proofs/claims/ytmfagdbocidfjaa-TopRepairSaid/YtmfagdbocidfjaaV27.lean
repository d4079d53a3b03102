import Derived.Test.YtmfagdbocidfjaaV26
import Derived.Test.YtmfagdbocidfjaaV24
import Derived.Test.YtmfagdbocidfjaaV25
import Derived.Deep.DeepCutAuto
/- The code's rows are the document's weights. Plain: a polynomial that is 0 at all places but one is the product of the distances. -/
namespace Go.Proofs.Ytmfagdbocidfjaa
/-- the product of the distances of x from the first n places, but for place j -/
def upP (j x : Nat) : Nat → Nat
  | 0 => 1
  | n + 1 => if n = j then upP j x n else rmul (upP j x n) (x ^^^ n)
set_option maxRecDepth 100000 in
theorem upP_0 (j x : Nat) : upP j x 0 = 1 := rfl
set_option maxRecDepth 100000 in
theorem upP_at (j x : Nat) : upP j x (j + 1) = upP j x j := by simp [upP]
set_option maxRecDepth 100000 in
theorem upP_next (j x n : Nat) (h : n ≠ j) : upP j x (n + 1) = rmul (upP j x n) (x ^^^ n) := by simp only [upP]; rw [if_neg h]
set_option maxRecDepth 100000 in
theorem upP_lt (j x n : Nat) : upP j x n < 256 := by
  induction n with
  | zero => exact (by decide : 1 < 256)
  | succ n ih => simp only [upP]; split; exact ih; exact rmul_lt _ _
set_option maxRecDepth 100000 in
theorem upP_ne (j n : Nat) (hn : n ≤ 256) (hj : j < 256) : upP j j n ≠ 0 := by
  induction n with
  | zero => simp [upP]
  | succ n ih =>
    simp only [upP]
    split
    · exact ih (by omega)
    · rename_i h
      exact rmul_ne _ _ (upP_lt _ _ _) (xor_lt8 hj (by omega)) (ih (by omega)) (fun e => h (xor_zero_eq e).symm)
/-- how many places there are but for j -/
def cntP (j : Nat) : Nat → Nat
  | 0 => 0
  | n + 1 => if n = j then cntP j n else cntP j n + 1
set_option maxRecDepth 100000 in
theorem fac_up (j : Nat) (n : Nat) : ∀ f : Nat → Nat, Bd f → n ≤ 256 → (∀ i, i < n → i ≠ j → ev f i (cntP j n + 1) = 0) → ∀ x, x < 256 → ev f x (cntP j n + 1) = rmul (f (cntP j n)) (upP j x n) := by
  induction n with
  | zero =>
    intro f hf _ _ x hx
    simp only [cntP, ev, upP]
    rw [rpow_zero, Nat.zero_xor]
  | succ n ih =>
    intro f hf hn h x hx
    by_cases e : n = j
    · have e1 : cntP j (n + 1) = cntP j n := by simp only [cntP]; rw [if_pos e]
      have e2 : upP j x (n + 1) = upP j x n := by simp only [upP]; rw [if_pos e]
      rw [e1] at h ⊢
      rw [e2]
      exact ih f hf (by omega) (fun i hi hne => h i (by omega) hne) x hx
    · have e1 : cntP j (n + 1) = cntP j n + 1 := by simp only [cntP]; rw [if_neg e]
      rw [e1] at h ⊢
      rw [upP_next j x n e]
      obtain ⟨q, hq, hqt, hqe⟩ := root_div n (by omega) (cntP j n) f hf
      have h0 : ev f n (cntP j n + 2) = 0 := h n (by omega) e
      have hx2 := hqe x hx
      rw [h0, Nat.xor_zero] at hx2
      rw [show cntP j n + 1 + 1 = cntP j n + 2 from rfl, hx2]
      have hqr : ∀ i, i < n → i ≠ j → ev q i (cntP j n + 1) = 0 := fun i hi hne => by
        have h1 := hqe i (by omega)
        rw [h0, Nat.xor_zero, show ev f i (cntP j n + 2) = 0 from h i (by omega) hne] at h1
        refine Decidable.byContradiction fun hz => ?_
        exact rmul_ne (i ^^^ n) _ (xor_lt8 (by omega) (by omega)) (ev_lt _ _ _) (fun e2 => by have := xor_zero_eq e2; omega) hz h1.symm
      rw [ih q hq (by omega) hqr x hx, hqt]
      rw [pow_comm3 (x ^^^ n) (f (cntP j n + 1)) (upP j x n) (xor_lt8 hx (by omega)) (hf _) (upP_lt _ _ _), rmul_comm (x ^^^ n) (upP j x n) (xor_lt8 hx (by omega)) (upP_lt _ _ _)]
set_option maxRecDepth 100000 in
theorem cntP_k (j k : Nat) (hj : j < k) : cntP j k + 1 = k := by
  have h : ∀ n, cntP j n = if j < n then n - 1 else n := by
    intro n
    induction n with
    | zero => simp [cntP]
    | succ n ih =>
      simp only [cntP]
      rw [ih]
      by_cases e : n = j
      · rw [if_pos e, if_neg (by omega), if_pos (by omega)]; omega
      · rw [if_neg e]
        by_cases e2 : j < n
        · rw [if_pos e2, if_pos (by omega)]; omega
        · rw [if_neg e2, if_neg (by omega)]
  rw [h, if_pos hj]; omega
/-- by how much the value at the j-th of the first k places counts for that at x -/
def wtP (k j x : Nat) : Nat := rmul (upP j x k) (rinv (upP j j k))
/-- the places are the first k -/
def topF (r c : Nat) : Nat := rpow r c
/-- the code's rows -/
def rsF (k : Nat) : Nat → Nat → Nat := mlF pwF (ivS topF k k).2 k
set_option maxRecDepth 100000 in
theorem topF_bd : Bd2 topF := fun _ _ => rpow_lt _ _
set_option maxRecDepth 100000 in
theorem top_piv (k : Nat) (hk : k ≤ 255) (i : Nat) (hi : i < k) : pvF (ivS topF k i).1 i k i < k :=
  pow_pivots (fun i => i) k (fun i hi => by omega) (fun i j _ _ h => h) i hi
set_option maxRecDepth 100000 in
theorem rsF_ev (k x j : Nat) : rsF k x j = ev (fun c => (ivS topF k k).2 c j) x k := by
  unfold rsF mlF pwF
  rw [dt_sm, ev_sm]
  exact sm_congr _ _ _ (fun c hc => rmul_comm _ _ (rpow_lt _ _) ((iv_bd topF topF_bd k k).2 _ _))
set_option maxRecDepth 100000 in
theorem rs_weight (k x j : Nat) (hk : k ≤ 255) (hx : x < 256) (hj : j < k) : rsF k x j = wtP k j x := by
  have hb : Bd (fun c => (ivS topF k k).2 c j) := fun c => (iv_bd topF topF_bd k k).2 c j
  have hid : ∀ i, i < k → ev (fun c => (ivS topF k k).2 c j) i k = idF i j := fun i hi => by
    rw [← rsF_ev]
    exact (iv_inverse topF topF_bd k (top_piv k hk) i j hi hj).2
  have hcnt := cntP_k j k hj
  have hfac := fac_up j k _ hb (by omega) (fun i hi hne => by
    rw [hcnt, hid i hi, id_val, if_neg hne])
  rw [hcnt] at hfac
  have h1 := hfac j (by omega)
  rw [hid j hj, id_val, if_pos rfl] at h1
  rw [rsF_ev, hfac x hx]
  unfold wtP
  have hu := upP_lt j j k
  have h2 : rmul (upP j j k) ((ivS topF k k).2 (cntP j k) j) = 1 := by rw [rmul_comm _ _ hu (hb _)]; exact h1.symm
  rw [show (ivS topF k k).2 (cntP j k) j = rinv (upP j j k) from rinv_uniq _ _ hu (hb _) h2]
  exact rmul_comm _ _ (rinv_lt _) (upP_lt _ _ _)
end Go.Proofs.Ytmfagdbocidfjaa

/- rs.New: the code's rows. Conditions: the tables' block. -/
namespace Go.Proofs.Ytmfagdbocidfjaa
open Go.RowKit
set_option maxRecDepth 100000 in
theorem mat_setBox2 {w : World} {a : Option Addr} {R C b : Nat} {F : Nat → Nat → Nat} {r c : Int} {s : Option Addr} {n m : Nat} {T : TypeId} {fr : Nat × Nat} (h : MAt w a R C F) (hb : w.heap[b]? = some (.cells #[.int .i64 r, .int .i64 c, .slice s n m] T fr)) (D : Array Value) :
    MAt (w.setRow b D) a R C F := mat_setBox h hb D
/-- a code's block -/
def CodeAt (w : World) (c p k m : Nat) : Prop := ∃ g, w.heap[c]? = some (.cells #[.int .i64 (k : Nat), .int .i64 (m : Nat), .pointer (some ⟨p, 0, none⟩), .int .i64 (k + m : Nat), .int .i64 (k : Nat), .slice (some ⟨g, 0, none⟩) ((k + m) * k) ((k + m) * k)] 196 (0, 0)) ∧ MAt w (some ⟨g, 0, none⟩) (k + m) k (rsF k)
def CodePost (W : World) (p k m : Nat) (e : Ending) (W' : World) : Prop := ∃ c, e = .returned (.tuple #[.pointer (some ⟨c, 0, none⟩), .int .i64 0]) ∧ W.heap.size ≤ c ∧ CodeAt W' c p k m ∧ Below W.heap.size W W'
attribute [local irreducible] gexp gtbl glog rmul rinv rpow zexp mixF blk wLoad wLoadRes loadAns wStore wStoreRes storeAns Plain flF BRow MRow MAt By IsGf ivS rsF mlF
attribute [local go_sem ↓] ld_m0 sto_m0
attribute [local go_sem] ld_m sto_m loadAns_some storeAns_some mx_size mx_plain blk_alloc_if blk_setRow_if blk_drew_at blk_drewN_at rowPut_some blk_setCell_if cellPut_some
set_option maxRecDepth 100000 in
set_option maxHeartbeats 1000000 in
theorem s_code_no (p : Value) (k m : Int) (w : World) (h : k < 1 ∨ m < 0) :
    Calls Try.prog 82 #[p, .int .i64 k, .int .i64 m] w fun e w' => e = .returned (.tuple #[.pointer none, .int .i64 60]) ∧ w = w' := by
  by_cases h0 : k < 1
  · have d0 : decide (k < 1) = true := decide_eq_true h0
    clear h
    go_enter Try.func82, Try.ntmps82
    go_wp2_with fail
    go_ret2
    exact ⟨rfl, rfl⟩
  · have d0 : decide (k < 1) = false := decide_eq_false h0
    have d1 : decide (m < 0) = true := decide_eq_true (by omega)
    clear h h0
    go_enter Try.func82, Try.ntmps82
    go_wp2_with fail
    go_ret2
    exact ⟨rfl, rfl⟩
set_option maxRecDepth 100000 in
set_option maxHeartbeats 4000000 in
theorem s_code (p k m : Nat) (w : World) (hp : IsGf w p) (h0 : 1 ≤ k) (hkm : k + m ≤ 255) :
    Calls Try.prog 82 #[.pointer (some ⟨p, 0, none⟩), .int .i64 (k : Nat), .int .i64 (m : Nat)] w (CodePost w p k m) := by
  have hz := zeroM
  have hph := Lib.hid hp
  have hpl := hp.lt
  obtain ⟨R, hR⟩ : ∃ R, k + m = R := ⟨_, rfl⟩
  have hRi : (k : Int) + (m : Int) = (R : Int) := by omega
  have hkR : k ≤ R := by omega
  have hR2 : R ≤ 255 := by omega
  have d0 : decide ((k : Int) < 1) = false := decide_eq_false (by omega)
  have d1 : decide ((m : Int) < 0) = false := decide_eq_false (by omega)
  have d2 : decide ((255 : Int) < (k : Int)) = false := decide_eq_false (by omega)
  have d3 : decide (255 - (k : Int) < (m : Int)) = false := decide_eq_false (by omega)
  have hfin : Hid (∀ (W' : World) (c g : Nat), W'.heap[c]? = some (.cells #[.int .i64 (k : Nat), .int .i64 (m : Nat), .pointer (some ⟨p, 0, none⟩), .int .i64 (R : Nat), .int .i64 (k : Nat), .slice (some ⟨g, 0, none⟩) (R * k) (R * k)] 196 (0, 0)) → MAt W' (some ⟨g, 0, none⟩) R k (rsF k) → CodeAt W' c p k m) := hide (fun W' c g h1 h2 => by unfold CodeAt; rw [hR]; exact ⟨g, h1, h2⟩)
  have kpw := Lib.hid (fun y (hy : IsGf y p) => m_powers p R k y hy hR2 (by omega))
  have kfi := Lib.hid (fun y => s_first k y (by omega))
  have kpk := Lib.hid (fun y g (s : Option Addr) (c : Nat) (ha : MAt y (some ⟨g, 0, none⟩) R k pwF) (hs : ZAt y .i64 s k (fun i => (i : Nat))) => m_pick R k k k (some ⟨g, 0, none⟩) s (R * k) c pwF (fun i => (i : Nat)) y ha hs hR2 (by omega) (by omega) (Nat.le_refl _) (Nat.le_refl _) (fun j hj => by omega) (fun h => absurd h (Nat.lt_irrefl _)))
  have kin := Lib.hid (fun y g (hy : IsGf y p) (ha : MAt y (some ⟨g, 0, none⟩) k k topF) => m_invert p k (some ⟨g, 0, none⟩) (k * k) topF y hy ha (fun e => by cases e) topF_bd (by omega))
  have hpv : Hid (∀ j, j < k → pvF (ivS topF k j).1 j k j < k) := hide (top_piv k (by omega))
  have kmu := Lib.hid (fun y g g2 (hy : IsGf y p) (ha : MAt y (some ⟨g, 0, none⟩) R k pwF) (hb : MAt y (some ⟨g2, 0, none⟩) k k (ivS topF k k).2) => m_mul p R k k (some ⟨g, 0, none⟩) (some ⟨g2, 0, none⟩) (R * k) (k * k) pwF (ivS topF k k).2 y hy ha hb pw_bd (iv_bd topF topF_bd k k).2 hR2 (by omega) (by omega) (Nat.le_refl _) (Nat.le_refl _))
  have hrs : Hid (mlF pwF (ivS topF k k).2 k = rsF k) := hide (by unfold rsF; rfl)
  rw [hrs.out] at kmu
  obtain ⟨N, hN⟩ : ∃ N, R * k = N := ⟨_, rfl⟩
  obtain ⟨M, hM⟩ : ∃ M, k * k = M := ⟨_, rfl⟩
  rw [hN] at hfin kpk kmu
  rw [hM] at kin kmu
  have hNh := Lib.hid hN
  have hMh := Lib.hid hM
  clear hp hR hN hM hrs
  go_enter Try.func82, Try.ntmps82
  go_wp2_with fail
  refine (kpw.out w hph.out).mono ?_
  rintro e w1 ⟨g, rfl, hg, hmg, hb1⟩
  rw [hNh.out]
  have hb1h := Lib.hid hb1
  have hmgh := Lib.hid hmg
  have hgl := hmg.lt
  have hs1 := hb1.size
  clear hmg hb1
  go_upto_region 4 with (fail)
  obtain ⟨x0, x1, x2⟩ := boxed w1 #[.int .i64 0, .int .i64 0, .slice none 0 0] #[.int .i64 (R : Nat), .int .i64 (k : Nat), .slice (some ⟨g, 0, none⟩) N N] 188
  generalize World.setRow (World.alloc w1 _) _ _ = X at *
  generalize w1.heap.size = q8 at *
  have hmX : Hid (MAt X (some ⟨g, 0, none⟩) R k pwF) := hide (by
    have h := hmgh.out
    exact (h.below x2 hgl).mat)
  have hX8 : q8 < X.heap.size := by omega
  have hBX := Lib.hid (hb1h.out.trans (x2.mono hs1))
  have x0h := Lib.hid x0
  clear x0 x1 x2
  go_cut [10, 11] (fun v10 v11 wx => ∃ q g2 : Nat, v10 = .pointer (some ⟨q, 0, none⟩) ∧ v11 = .int .i64 0 ∧ Hid (wx.heap[q]? = some (.cells #[.int .i64 (k : Nat), .int .i64 (k : Nat), .slice (some ⟨g2, 0, none⟩) M M] 188 (0, 0))) ∧ Hid (Below X.heap.size X wx) ∧ Hid (MAt wx (some ⟨g2, 0, none⟩) k k topF))
  case first =>
    have hS : Hid (∀ y, Below X.heap.size X y → blk y q8 = some (.cells #[.int .i64 (R : Nat), .int .i64 (k : Nat), .slice (some ⟨g, 0, none⟩) N N] 188 (0, 0))) := hide (fun y hy => (blk_below hy hX8).trans (blk_of x0h.out))
    have hBd : Hid (Below X.heap.size X X.drew) := hide (below_drewN (Below.refl _ _) 1)
    refine h_begin 10 (fun y : World => blk y q8 = some (.cells #[.int .i64 (R : Nat), .int .i64 (k : Nat), .slice (some ⟨g, 0, none⟩) N N] 188 (0, 0))) rfl (by kernel_rfl) (hS.out _ hBd.out) ?_
    have hHeld : (fun y : World => blk y q8 = some (.cells #[.int .i64 (R : Nat), .int .i64 (k : Nat), .slice (some ⟨g, 0, none⟩) N N] 188 (0, 0))) X.drew := hS.out _ hBd.out
    first
      | (refine h_run (i := 0) (v := ?_) hHeld rfl (by kernel_rfl) (by kernel_rfl) (by kernel_rfl) ?_ ?_ ?_
         rotate_left
         · rfl
         · (intro x hSx; (try dsimp only at hSx); go_simp <;> with_reducible rfl)
         simp only [Act.put, List.setIfInBounds_toArray, List.set_cons_zero, List.set_cons_succ])
      | (refine h_skip (i := 0) hHeld rfl (by kernel_rfl) (by kernel_rfl) (by kernel_rfl) ?_ ?_
         · rfl
         simp only [Act.put, List.setIfInBounds_toArray, List.set_cons_zero, List.set_cons_succ])
    first
      | (refine h_run (i := 1) (v := ?_) hHeld rfl (by kernel_rfl) (by kernel_rfl) (by kernel_rfl) ?_ ?_ ?_
         rotate_left
         · rfl
         · (intro x hSx; (try dsimp only at hSx); go_simp <;> with_reducible rfl)
         simp only [Act.put, List.setIfInBounds_toArray, List.set_cons_zero, List.set_cons_succ])
      | (refine h_skip (i := 1) hHeld rfl (by kernel_rfl) (by kernel_rfl) (by kernel_rfl) ?_ ?_
         · rfl
         simp only [Act.put, List.setIfInBounds_toArray, List.set_cons_zero, List.set_cons_succ])
    clear hHeld
    refine h_alloc2 (i := 7) (j := 2) (k := 3) (fj := 99) (fk := 98) (aj := #[.int .i64 (k : Nat)]) (fun v => #[.agg #[.int .i64 (R : Nat), .int .i64 (k : Nat), .slice (some ⟨g, 0, none⟩) N N], v]) (.cells #[.int .i64 0, .int .i64 0, .slice none 0 0] 188) X.heap.size (fun y => Below X.heap.size X y) (fun y => Below X.heap.size X y)
      (fun v y => ∃ s c, v = .slice s k c ∧ ZAt y .i64 s k (fun i => (i : Nat))) (fun u y => ∃ g2, u = .tuple #[.agg #[.int .i64 (k : Nat), .int .i64 (k : Nat), .slice (some ⟨g2, 0, none⟩) M M], .int .i64 0] ∧ MAt y (some ⟨g2, 0, none⟩) k k topF) [2, 7] [3, 7]
      hBd.out hS.out (fun y hy => hy.size) (fun y hy => hy.alloc hy.size _) hS.out (fun y hy => hy.size) (fun y hy => hy.alloc hy.size _) (fun v y hy hv => ?_) (fun u y hy hu => ?_) (fun y hy => ?_) (fun y v hy hv => ?_) rfl rfl rfl (by kernel_rfl) (by decide) (by kernel_rfl) (by kernel_rfl) (by kernel_rfl) (by decide) (by kernel_rfl) (fun _ => rfl) (fun _ => rfl) (fun _ => rfl) (fun b y => ?_) (fun y => ?_) (fun y p => ?_) (fun y v => ?_) (fun y v p => ?_) (fun y v p => ?_) rfl (fun _ _ _ => rfl) ?_ ?_
    · obtain ⟨s, c, h1, h2⟩ := hv
      exact ⟨s, c, h1, h2.below (below_one y _)⟩
    · obtain ⟨g2, h1, h2⟩ := hu
      exact ⟨g2, h1, h2.below (below_one y _)⟩
    · refine (kfi.out y).mono ?_
      rintro e y1 ⟨s, c, rfl, h1, _, _, _, h2⟩
      exact ⟨_, rfl, below_step hy hy.size h2, ⟨s, c, rfl, h1⟩, fun q _ hq => h2.block q hq⟩
    · obtain ⟨s, c, rfl, h1⟩ := hv
      refine (kpk.out y g s c (hmX.out.below hy) h1).mono ?_
      rintro e y1 (⟨_, g2, rfl, h2, h3, h4⟩ | ⟨h, _⟩)
      · refine ⟨_, rfl, below_step hy hy.size h4, ⟨g2, by rw [hMh.out], ?_⟩, fun q _ hq => h4.block q hq⟩
        exact (h3.congr (fun r c _ _ => rfl)).mat
      · exact absurd h (Nat.lt_irrefl _)
    · go_simp <;> with_reducible rfl
    · go_simp <;> with_reducible rfl
    · go_simp <;> with_reducible rfl
    · go_simp <;> with_reducible rfl
    · go_simp <;> with_reducible rfl
    · go_simp <;> with_reducible rfl
    · intro y q v u hy hu hq hBq
      obtain ⟨g2, rfl, hm2⟩ := hu
      simp only [Act.put, List.setIfInBounds_toArray, List.set_cons_zero, List.set_cons_succ]
      have hm2h := Lib.hid hm2
      have hHeld : (fun y : World => blk y q8 = some (.cells #[.int .i64 (R : Nat), .int .i64 (k : Nat), .slice (some ⟨g, 0, none⟩) N N] 188 (0, 0))) y := hS.out _ hy
      clear hm2
      first
        | (refine h_run (i := 4) (v := ?_) hHeld rfl (by kernel_rfl) (by kernel_rfl) (by kernel_rfl) ?_ ?_ ?_
           rotate_left
           · rfl
           · (intro x hSx; (try dsimp only at hSx); go_simp <;> with_reducible rfl)
           simp only [Act.put, List.setIfInBounds_toArray, List.set_cons_zero, List.set_cons_succ])
        | (refine h_skip (i := 4) hHeld rfl (by kernel_rfl) (by kernel_rfl) (by kernel_rfl) ?_ ?_
           · rfl
           simp only [Act.put, List.setIfInBounds_toArray, List.set_cons_zero, List.set_cons_succ])
      first
        | (refine h_run (i := 5) (v := ?_) hHeld rfl (by kernel_rfl) (by kernel_rfl) (by kernel_rfl) ?_ ?_ ?_
           rotate_left
           · rfl
           · (intro x hSx; (try dsimp only at hSx); go_simp <;> with_reducible rfl)
           simp only [Act.put, List.setIfInBounds_toArray, List.set_cons_zero, List.set_cons_succ])
        | (refine h_skip (i := 5) hHeld rfl (by kernel_rfl) (by kernel_rfl) (by kernel_rfl) ?_ ?_
           · rfl
           simp only [Act.put, List.setIfInBounds_toArray, List.set_cons_zero, List.set_cons_succ])
      first
        | (refine h_run (i := 6) (v := ?_) hHeld rfl (by kernel_rfl) (by kernel_rfl) (by kernel_rfl) ?_ ?_ ?_
           rotate_left
           · rfl
           · (intro x hSx; (try dsimp only at hSx); go_simp <;> with_reducible rfl)
           simp only [Act.put, List.setIfInBounds_toArray, List.set_cons_zero, List.set_cons_succ])
        | (refine h_skip (i := 6) hHeld rfl (by kernel_rfl) (by kernel_rfl) (by kernel_rfl) ?_ ?_
           · rfl
           simp only [Act.put, List.setIfInBounds_toArray, List.set_cons_zero, List.set_cons_succ])
      clear hHeld
      have bq := blk_of hq
      have hyz := Lib.hid (below_setRow hy hBq #[.int .i64 (k : Nat), .int .i64 (k : Nat), .slice (some ⟨g2, 0, none⟩) M M])
      have hqz := Lib.hid (setRow_heap y q _ #[.int .i64 (k : Nat), .int .i64 (k : Nat), .slice (some ⟨g2, 0, none⟩) M M] 188 (0, 0) hq)
      have hmz := Lib.hid (mat_setBox2 hm2h.out hq #[.int .i64 (k : Nat), .int .i64 (k : Nat), .slice (some ⟨g2, 0, none⟩) M M])
      clear hq
      refine h_write (i := 8) (w' := y.setRow q #[.int .i64 (k : Nat), .int .i64 (k : Nat), .slice (some ⟨g2, 0, none⟩) M M]) (fun y : World => blk y q8 = some (.cells #[.int .i64 (R : Nat), .int .i64 (k : Nat), .slice (some ⟨g, 0, none⟩) N N] 188 (0, 0))) (fun _ h => h) rfl (by kernel_rfl) rfl ?_ (hS.out _ hyz.out) ?_
      · go_simp <;> with_reducible rfl
      have hHeld : (fun y : World => blk y q8 = some (.cells #[.int .i64 (R : Nat), .int .i64 (k : Nat), .slice (some ⟨g, 0, none⟩) N N] 188 (0, 0))) (y.setRow q #[.int .i64 (k : Nat), .int .i64 (k : Nat), .slice (some ⟨g2, 0, none⟩) M M]) := hS.out _ hyz.out
      first
        | (refine h_run (i := 9) (v := ?_) hHeld rfl (by kernel_rfl) (by kernel_rfl) (by kernel_rfl) ?_ ?_ ?_
           rotate_left
           · rfl
           · (intro x hSx; (try dsimp only at hSx); go_simp <;> with_reducible rfl)
           simp only [Act.put, List.setIfInBounds_toArray, List.set_cons_zero, List.set_cons_succ])
        | (refine h_skip (i := 9) hHeld rfl (by kernel_rfl) (by kernel_rfl) (by kernel_rfl) ?_ ?_
           · rfl
           simp only [Act.put, List.setIfInBounds_toArray, List.set_cons_zero, List.set_cons_succ])
      clear hHeld bq
      refine h_done (by kernel_rfl) ?_
      go_wp2_with fail
      go_meet
      exact ⟨q, g2, rfl, rfl, hqz, hyz, hmz⟩
    · intro y v u hy hu
      obtain ⟨g2, rfl, hm2⟩ := hu
      simp only [Act.put, List.setIfInBounds_toArray, List.set_cons_zero, List.set_cons_succ]
      have hm2h := Lib.hid hm2
      have hHeld : (fun y : World => blk y q8 = some (.cells #[.int .i64 (R : Nat), .int .i64 (k : Nat), .slice (some ⟨g, 0, none⟩) N N] 188 (0, 0))) y := hS.out _ hy
      clear hm2
      first
        | (refine h_run (i := 4) (v := ?_) hHeld rfl (by kernel_rfl) (by kernel_rfl) (by kernel_rfl) ?_ ?_ ?_
           rotate_left
           · rfl
           · (intro x hSx; (try dsimp only at hSx); go_simp <;> with_reducible rfl)
           simp only [Act.put, List.setIfInBounds_toArray, List.set_cons_zero, List.set_cons_succ])
        | (refine h_skip (i := 4) hHeld rfl (by kernel_rfl) (by kernel_rfl) (by kernel_rfl) ?_ ?_
           · rfl
           simp only [Act.put, List.setIfInBounds_toArray, List.set_cons_zero, List.set_cons_succ])
      first
        | (refine h_run (i := 5) (v := ?_) hHeld rfl (by kernel_rfl) (by kernel_rfl) (by kernel_rfl) ?_ ?_ ?_
           rotate_left
           · rfl
           · (intro x hSx; (try dsimp only at hSx); go_simp <;> with_reducible rfl)
           simp only [Act.put, List.setIfInBounds_toArray, List.set_cons_zero, List.set_cons_succ])
        | (refine h_skip (i := 5) hHeld rfl (by kernel_rfl) (by kernel_rfl) (by kernel_rfl) ?_ ?_
           · rfl
           simp only [Act.put, List.setIfInBounds_toArray, List.set_cons_zero, List.set_cons_succ])
      first
        | (refine h_run (i := 6) (v := ?_) hHeld rfl (by kernel_rfl) (by kernel_rfl) (by kernel_rfl) ?_ ?_ ?_
           rotate_left
           · rfl
           · (intro x hSx; (try dsimp only at hSx); go_simp <;> with_reducible rfl)
           simp only [Act.put, List.setIfInBounds_toArray, List.set_cons_zero, List.set_cons_succ])
        | (refine h_skip (i := 6) hHeld rfl (by kernel_rfl) (by kernel_rfl) (by kernel_rfl) ?_ ?_
           · rfl
           simp only [Act.put, List.setIfInBounds_toArray, List.set_cons_zero, List.set_cons_succ])
      have hal := Lib.hid (hy.alloc hy.size (.cells #[.int .i64 0, .int .i64 0, .slice none 0 0] 188))
      refine h_value (i := 7) (v := .pointer (some ⟨y.heap.size, 0, none⟩)) (w' := y.alloc (.cells #[.int .i64 0, .int .i64 0, .slice none 0 0] 188)) (fun y : World => blk y q8 = some (.cells #[.int .i64 (R : Nat), .int .i64 (k : Nat), .slice (some ⟨g, 0, none⟩) N N] 188 (0, 0))) (fun _ h => h) rfl (by kernel_rfl) rfl ?_ (hS.out _ hal.out) ?_
      · go_simp <;> with_reducible rfl
      have hq := last_block0 y (.cells #[.int .i64 0, .int .i64 0, .slice none 0 0] 188) _ rfl
      have hBq := hy.size
      have hm2h := Lib.hid (hm2h.out.below (below_one y (.cells #[.int .i64 0, .int .i64 0, .slice none 0 0] 188)))
      generalize hqe : y.heap.size = q at *
      have hy := hal.out
      generalize World.alloc y _ = y at *
      clear hHeld
      have bq := blk_of hq
      have hyz := Lib.hid (below_setRow hy hBq #[.int .i64 (k : Nat), .int .i64 (k : Nat), .slice (some ⟨g2, 0, none⟩) M M])
      have hqz := Lib.hid (setRow_heap y q _ #[.int .i64 (k : Nat), .int .i64 (k : Nat), .slice (some ⟨g2, 0, none⟩) M M] 188 (0, 0) hq)
      have hmz := Lib.hid (mat_setBox2 hm2h.out hq #[.int .i64 (k : Nat), .int .i64 (k : Nat), .slice (some ⟨g2, 0, none⟩) M M])
      clear hq
      refine h_write (i := 8) (w' := y.setRow q #[.int .i64 (k : Nat), .int .i64 (k : Nat), .slice (some ⟨g2, 0, none⟩) M M]) (fun y : World => blk y q8 = some (.cells #[.int .i64 (R : Nat), .int .i64 (k : Nat), .slice (some ⟨g, 0, none⟩) N N] 188 (0, 0))) (fun _ h => h) rfl (by kernel_rfl) rfl ?_ (hS.out _ hyz.out) ?_
      · go_simp <;> with_reducible rfl
      have hHeld : (fun y : World => blk y q8 = some (.cells #[.int .i64 (R : Nat), .int .i64 (k : Nat), .slice (some ⟨g, 0, none⟩) N N] 188 (0, 0))) (y.setRow q #[.int .i64 (k : Nat), .int .i64 (k : Nat), .slice (some ⟨g2, 0, none⟩) M M]) := hS.out _ hyz.out
      first
        | (refine h_run (i := 9) (v := ?_) hHeld rfl (by kernel_rfl) (by kernel_rfl) (by kernel_rfl) ?_ ?_ ?_
           rotate_left
           · rfl
           · (intro x hSx; (try dsimp only at hSx); go_simp <;> with_reducible rfl)
           simp only [Act.put, List.setIfInBounds_toArray, List.set_cons_zero, List.set_cons_succ])
        | (refine h_skip (i := 9) hHeld rfl (by kernel_rfl) (by kernel_rfl) (by kernel_rfl) ?_ ?_
           · rfl
           simp only [Act.put, List.setIfInBounds_toArray, List.set_cons_zero, List.set_cons_succ])
      clear hHeld bq
      refine h_done (by kernel_rfl) ?_
      go_wp2_with fail
      go_meet
      exact ⟨q, g2, rfl, rfl, hqz, hyz, hmz⟩
  case rest =>
    obtain ⟨q, g2, rfl, rfl, hq, hy, hm2⟩ := hcut
    have bq := blk_of hq.out
    have hBw := Lib.hid (hBX.out.trans (hy.out.mono (by have := hBX.out.size; omega)))
    have b8 : blk wc q8 = some (.cells #[.int .i64 (R : Nat), .int .i64 (k : Nat), .slice (some ⟨g, 0, none⟩) N N] 188 (0, 0)) := (blk_below hy.out hX8).trans (blk_of x0h.out)
    have b8h := Lib.hid b8
    have hpc := Lib.hid (hph.out.below hBw.out hpl)
    have hm1 := Lib.hid (hmX.out.below hy.out)
    clear b8
    go_wp2_with fail
    refine (kin.out wc g2 hpc.out hm2.out).mono ?_
    rintro e w3 ⟨h3, _⟩
    obtain ⟨g3, rfl, hg3, hm3, hb3⟩ := h3 hpv.out
    rw [hMh.out]
    have hb3h := Lib.hid (hBw.out.trans (hb3.mono hBw.out.size))
    have b3 : blk w3 q8 = some (.cells #[.int .i64 (R : Nat), .int .i64 (k : Nat), .slice (some ⟨g, 0, none⟩) N N] 188 (0, 0)) := (blk_below hb3 (by have := hy.out.size; omega)).trans b8h.out
    have hq8 : q8 < w3.heap.size := blk_lt b3
    have hm3h := Lib.hid hm3.mat
    have hm1b := Lib.hid (hm1.out.below hb3)
    have hg3l := hm3.lt
    have b3h := Lib.hid b3
    clear hm3 hb3 h3 bq b3
    go_upto_region 6 with (fail)
    obtain ⟨x0, x1, x2⟩ := boxed w3 #[.int .i64 0, .int .i64 0, .slice none 0 0] #[.int .i64 (k : Nat), .int .i64 (k : Nat), .slice (some ⟨g3, 0, none⟩) M M] 188
    generalize World.setRow (World.alloc w3 _) _ _ = Y at *
    have b8y := (blk_below x2 hq8).trans b3h.out
    have b12 := blk_of x0
    have hBY := Lib.hid (hb3h.out.trans (x2.mono hb3h.out.size))
    have hpy := Lib.hid (hph.out.below hBY.out hpl)
    have hmy1 := Lib.hid (hm1b.out.below x2)
    have hmy2 := Lib.hid (hm3h.out.below x2)
    generalize w3.heap.size = q12 at *
    clear x0 x1 x2
    go_wp2_with fail
    refine (kmu.out Y g g3 hpy.out hmy1.out hmy2.out).mono ?_
    rintro e w4 ⟨g4, rfl, hg4, hm4, hb4⟩
    rw [hNh.out]
    have hb4h := Lib.hid (hBY.out.trans (hb4.mono hBY.out.size))
    have hm4h := Lib.hid hm4
    have hg4l := hm4.lt
    clear hm4 hb4 b8y b12
    go_upto_region 7 with (fail)
    obtain ⟨x0, x1, x2⟩ := boxed w4 #[.int .i64 0, .int .i64 0, .slice none 0 0] #[.int .i64 (R : Nat), .int .i64 (k : Nat), .slice (some ⟨g4, 0, none⟩) N N] 188
    generalize World.setRow (World.alloc w4 _) _ _ = Z at *
    have b14 := blk_of x0
    have hBZ := Lib.hid (hb4h.out.trans (x2.mono hb4h.out.size))
    have hmz := Lib.hid (hm4h.out.below x2 hg4l)
    generalize w4.heap.size = q14 at *
    clear x0 x1 x2
    go_wp2_with fail
    have hfo := hfin.out
    go_ret2
    exact ⟨_, rfl, by have := hBZ.out.size; omega, hfo _ _ g4 (last_block0 Z _ _ rfl) (hmz.out.mat.below (below_one Z _)), hBZ.out.alloc (hBZ.out.size) _⟩
end Go.Proofs.Ytmfagdbocidfjaa

import Derived.Test.YtmfagdbocidfjaaV18
/- The contracts of the document's and of package matrix's Mul. Conditions: what the slices read as. -/
namespace Go.Proofs.Ytmfagdbocidfjaa
open Go.RowKit
set_option maxRecDepth 100000 in
theorem ret_sameM {P : Program} {f : FuncId} {args : Array Value} {w : World} {v : Value} (h : Calls P f args w fun e w' => e = .returned v ∧ w = w') : Calls P f args w (Ret w v) :=
  h.mono fun _ _ ⟨he, hn⟩ => ⟨he, by rw [← hn]; exact Below.refl _ _⟩
/-- the first n products, together -/
def dtF (F G : Nat → Nat → Nat) (i k : Nat) : Nat → Nat
  | 0 => 0
  | n + 1 => dtF F G i k n ^^^ rmul (F i n) (G n k)
set_option maxRecDepth 100000 in
theorem dt_zero (F G : Nat → Nat → Nat) (i k : Nat) : dtF F G i k 0 = 0 := by rw [dtF]
set_option maxRecDepth 100000 in
theorem dt_next (F G : Nat → Nat → Nat) (i k n : Nat) : dtF F G i k (n + 1) = dtF F G i k n ^^^ rmul (F i n) (G n k) := by rw [dtF]
set_option maxRecDepth 100000 in
theorem dt_lt (F G : Nat → Nat → Nat) (i k n : Nat) : dtF F G i k n < 256 := by
  induction n with
  | zero => rw [dtF]; decide
  | succ n ih => rw [dtF]; exact xor_lt256 ih (rmul_lt _ _)
def mlF (F G : Nat → Nat → Nat) (K i k : Nat) : Nat := dtF F G i k K
set_option maxRecDepth 100000 in
theorem ml_bd (F G : Nat → Nat → Nat) (K : Nat) : Bd2 (mlF F G K) := fun _ _ => dt_lt _ _ _ _ _
set_option maxRecDepth 100000 in
theorem three_allocs (w : World) (A B C : Obj) : (((w.alloc A).alloc B).alloc C).heap[w.heap.size]? = some A ∧ (((w.alloc A).alloc B).alloc C).heap[w.heap.size + 1]? = some B ∧ (((w.alloc A).alloc B).alloc C).heap[w.heap.size + 2]? = some C ∧ (((w.alloc A).alloc B).alloc C).heap.size = w.heap.size + 3 ∧ Below w.heap.size w (((w.alloc A).alloc B).alloc C) := by
  have s1 : ∀ (u : World) (o : Obj), (u.alloc o).heap.size = u.heap.size + 1 := fun u o => by show (u.heap.push _).size = _; rw [Array.size_push]
  exact ⟨blk_alloc (blk_alloc (last_block0 _ _ _ rfl) _) _, blk_alloc (last_block0 _ _ _ (s1 _ _).symm) _, last_block0 _ _ _ (by rw [s1, s1]), by rw [s1, s1, s1], (((Below.refl _ _).alloc (Nat.le_refl _) _).alloc (by rw [s1]; omega) _).alloc (by rw [s1, s1]; omega) _⟩
attribute [local irreducible] gexp gtbl glog rmul rinv rpow zexp mixF blk wLoad wLoadRes loadAns wStore wStoreRes storeAns Plain flF BRow MRow IsGf OwnZ zfl dtF
attribute [local go_sem ↓] ld_m0 sto_m0
attribute [local go_sem] ld_m sto_m loadAns_some storeAns_some mx_size mx_plain blk_alloc_if blk_setRow_if blk_drew_at blk_drewN_at rowPut_some blk_setCell_if cellPut_some
end Go.Proofs.Ytmfagdbocidfjaa

/- Matrices over the field, plain: sums, products, what Invert leaves. No program is in sight. -/
namespace Go.Proofs.Ytmfagdbocidfjaa
def sm (f : Nat → Nat) : Nat → Nat
  | 0 => 0
  | n + 1 => sm f n ^^^ f n
set_option maxRecDepth 100000 in
theorem sm_next (f : Nat → Nat) (n : Nat) : sm f (n + 1) = sm f n ^^^ f n := by rw [sm]
set_option maxRecDepth 100000 in
theorem dt_sm (F G : Nat → Nat → Nat) (i k n : Nat) : dtF F G i k n = sm (fun m => rmul (F i m) (G m k)) n := by
  induction n with
  | zero => rw [dtF, sm]
  | succ n ih => rw [dtF, sm, ih]
set_option maxRecDepth 100000 in
theorem sm_congr (f g : Nat → Nat) (n : Nat) (h : ∀ m, m < n → f m = g m) : sm f n = sm g n := by
  induction n with
  | zero => rfl
  | succ n ih => rw [sm, sm, ih (fun m hm => h m (by omega)), h n (by omega)]
set_option maxRecDepth 100000 in
theorem xor_mid (a b c d : Nat) : (a ^^^ b) ^^^ (c ^^^ d) = (a ^^^ c) ^^^ (b ^^^ d) := by
  rw [Nat.xor_assoc, Nat.xor_assoc]
  congr 1
  rw [← Nat.xor_assoc, Nat.xor_comm b c, Nat.xor_assoc]
set_option maxRecDepth 100000 in
theorem sm_xor (f g : Nat → Nat) (n : Nat) : sm (fun m => f m ^^^ g m) n = sm f n ^^^ sm g n := by
  induction n with
  | zero => simp [sm]
  | succ n ih => rw [sm, sm, sm, ih, xor_mid]
set_option maxRecDepth 100000 in
theorem sm_zero (n : Nat) : sm (fun _ => 0) n = 0 := by
  induction n with
  | zero => rfl
  | succ n ih => rw [sm, ih]; rfl
set_option maxRecDepth 100000 in
theorem sm_lt (f : Nat → Nat) (h : ∀ m, f m < 256) (n : Nat) : sm f n < 256 := by
  induction n with
  | zero => rw [sm]; decide
  | succ n ih => rw [sm]; exact xor_lt256 ih (h n)
set_option maxRecDepth 100000 in
theorem sm_mul (s : Nat) (f : Nat → Nat) (n : Nat) : rmul s (sm f n) = sm (fun m => rmul s (f m)) n := by
  induction n with
  | zero => rw [sm, sm, rmul_zero_right]
  | succ n ih => rw [sm, sm, rmul_xor_right, ih]
set_option maxRecDepth 100000 in
theorem sm_mulr (s : Nat) (f : Nat → Nat) (n : Nat) : rmul (sm f n) s = sm (fun m => rmul (f m) s) n := by
  induction n with
  | zero => rw [sm, sm, rmul_zero_left]
  | succ n ih => rw [sm, sm, rmul_xor_left, ih]
set_option maxRecDepth 100000 in
theorem sm_swap (f : Nat → Nat → Nat) (n m : Nat) : sm (fun a => sm (fun b => f a b) m) n = sm (fun b => sm (fun a => f a b) n) m := by
  induction n with
  | zero => rw [sm]; exact (sm_zero m).symm
  | succ n ih =>
    rw [sm, ih]
    exact (sm_xor (fun b => sm (fun a => f a b) n) (fun b => f n b) m).symm
set_option maxRecDepth 100000 in
theorem sm_one (i x n : Nat) : sm (fun m => if m = i then x else 0) n = if i < n then x else 0 := by
  induction n with
  | zero => rw [sm, if_neg (by omega)]
  | succ n ih =>
    rw [sm, ih]
    by_cases h : n = i
    · subst h
      rw [if_neg (by omega), if_pos rfl, if_pos (by omega), Nat.zero_xor]
    · rw [if_neg h, Nat.xor_zero]
      by_cases h2 : i < n
      · rw [if_pos h2, if_pos (by omega)]
      · rw [if_neg h2, if_neg (by omega)]
set_option maxRecDepth 100000 in
theorem one_mul8 (a : Nat) (h : a < 256) : rmul 1 a = a := by rw [rmul_comm 1 a (by decide) h, rmul_one a h]
set_option maxRecDepth 100000 in
theorem id_val (i k : Nat) : idF i k = if i = k then 1 else 0 := rfl
set_option maxRecDepth 100000 in
theorem ml_id_l (B : Nat → Nat → Nat) (hB : Bd2 B) (n i k : Nat) (hi : i < n) : mlF idF B n i k = B i k := by
  unfold mlF
  rw [dt_sm, sm_congr _ (fun m => if m = i then B i k else 0) n (fun m _ => by
    rw [id_val]
    by_cases h : i = m
    · subst h; rw [if_pos rfl, if_pos rfl, one_mul8 _ (hB _ _)]
    · rw [if_neg h, if_neg (fun e => h e.symm), rmul_zero_left]), sm_one, if_pos hi]
set_option maxRecDepth 100000 in
theorem ml_id_r (B : Nat → Nat → Nat) (hB : Bd2 B) (n i k : Nat) (hk : k < n) : mlF B idF n i k = B i k := by
  unfold mlF
  rw [dt_sm, sm_congr _ (fun m => if m = k then B i k else 0) n (fun m _ => by
    rw [id_val]
    by_cases h : m = k
    · subst h; rw [if_pos rfl, if_pos rfl, rmul_one _ (hB _ _)]
    · rw [if_neg h, if_neg h, rmul_zero_right]), sm_one, if_pos hk]
set_option maxRecDepth 100000 in
theorem ml_congr (A A' B B' : Nat → Nat → Nat) (n i k : Nat) (hA : ∀ m, m < n → A i m = A' i m) (hB : ∀ m, m < n → B m k = B' m k) : mlF A B n i k = mlF A' B' n i k := by
  unfold mlF
  rw [dt_sm, dt_sm]
  exact sm_congr _ _ n (fun m hm => by rw [hA m hm, hB m hm])
set_option maxRecDepth 100000 in
theorem ml_assoc (A B C : Nat → Nat → Nat) (hA : Bd2 A) (hB : Bd2 B) (hC : Bd2 C) (n i k : Nat) : mlF (mlF A B n) C n i k = mlF A (mlF B C n) n i k := by
  unfold mlF
  rw [dt_sm, dt_sm]
  have e1 : sm (fun m => rmul (dtF A B i m n) (C m k)) n = sm (fun m => sm (fun j => rmul (rmul (A i j) (B j m)) (C m k)) n) n := sm_congr _ _ n (fun m _ => by rw [dt_sm, sm_mulr])
  have e2 : sm (fun j => rmul (A i j) (dtF B C j k n)) n = sm (fun j => sm (fun m => rmul (A i j) (rmul (B j m) (C m k))) n) n := sm_congr _ _ n (fun j _ => by rw [dt_sm, sm_mul])
  rw [e1, e2, sm_swap]
  exact sm_congr _ _ n (fun j _ => sm_congr _ _ n (fun m _ => (rmul_assoc _ _ _ (hA _ _) (hB _ _) (hC _ _)).symm))
/-! ### row operations -/
set_option maxRecDepth 100000 in
theorem ml_sw (E F : Nat → Nat → Nat) (i k n r c : Nat) : mlF (swF E i k) F n r c = swF (mlF E F n) i k r c := by
  show dtF (swF E i k) F r c n = dtF E F (if r = i then k else if r = k then i else r) c n
  rw [dt_sm, dt_sm]
  exact sm_congr _ _ n (fun m _ => rfl)
set_option maxRecDepth 100000 in
theorem ml_el (E F : Nat → Nat → Nat) (hE : Bd2 E) (hF : Bd2 F) (s : Nat) (d : Nat → Nat) (hs : s < 256) (hd : ∀ r, d r < 256) (i n r c : Nat) : mlF (elF E s d i) F n r c = elF (mlF E F n) s d i r c := by
  have e0 : ∀ r, sm (fun m => rmul (rmul s (E r m)) (F m c)) n = rmul s (dtF E F r c n) := fun r => by
    rw [dt_sm, sm_mul]
    exact sm_congr _ _ n (fun m _ => (rmul_assoc _ _ _ hs (hE _ _) (hF _ _)).symm)
  unfold mlF
  rw [dt_sm]
  unfold elF
  by_cases h : r = i
  · rw [if_pos h, ← e0 i]
    exact sm_congr _ _ n (fun m _ => by rw [if_pos h])
  · rw [if_neg h]
    dsimp only
    rw [← e0 i, sm_mul, dt_sm E F, ← sm_xor]
    exact sm_congr _ _ n (fun m _ => by rw [if_neg h, rmul_xor_left, rmul_assoc _ _ _ (hd r) (rmul_lt _ _) (hF _ _)])
set_option maxRecDepth 100000 in
theorem iv_prod (F : Nat → Nat → Nat) (hF : Bd2 F) (n i : Nat) (r c : Nat) (hr : r < n) (hp : ∀ j, j < i → pvF (ivS F n j).1 j n j < n) (hi : i ≤ n) : mlF (ivS F n i).2 F n r c = (ivS F n i).1 r c := by
  induction i generalizing r c with
  | zero => rw [iv_zero]; exact ml_id_l F hF n r c hr
  | succ i ih =>
    have hk := hp i (by omega)
    have hih := fun r hr c => ih r c hr (fun j hj => hp j (by omega)) (by omega)
    obtain ⟨b1, b2⟩ := iv_bd F hF n i
    rw [iv_next1, iv_next2]
    generalize pvF (ivS F n i).1 i n i = k at *
    show mlF (elF (swF (ivS F n i).2 i k) _ _ i) F n r c = elF (swF (ivS F n i).1 i k) _ _ i r c
    rw [ml_el _ F (sw_bd b2 i k) hF _ _ (rinv_lt _) (fun r => sw_bd b1 i k r i)]
    have e : ∀ r, r < n → ∀ c, mlF (swF (ivS F n i).2 i k) F n r c = swF (ivS F n i).1 i k r c := fun r hr c => by
      rw [ml_sw]
      unfold swF
      refine hih _ ?_ c
      split
      · exact hk
      · split
        · omega
        · exact hr
    unfold elF
    by_cases h : r = i
    · rw [if_pos h, if_pos h, e i (by omega)]
    · rw [if_neg h, if_neg h, e i (by omega), e r hr]
set_option maxRecDepth 100000 in
/-- the columns ahead of i are those of the identity -/
theorem iv_cols (F : Nat → Nat → Nat) (hF : Bd2 F) (n i : Nat) (hp : ∀ j, j < i → pvF (ivS F n j).1 j n j < n) (hi : i ≤ n) (r j : Nat) (hr : r < n) (hj : j < i) : (ivS F n i).1 r j = idF r j := by
  induction i generalizing r j with
  | zero => omega
  | succ i ih =>
    have hk := hp i (by omega)
    have hih := fun r j hr hj => ih (fun j hj => hp j (by omega)) (by omega) r j hr hj
    obtain ⟨p1, p2, p3, p4⟩ := pv_facts (ivS F n i).1 i n i (by omega)
    have hnz := p3 hk
    obtain ⟨b1, b2⟩ := iv_bd F hF n i
    rw [iv_next1]
    generalize pvF (ivS F n i).1 i n i = k at *
    generalize (ivS F n i).1 = M at *
    have hN : ∀ r, r < n → ∀ j, j < i → swF M i k r j = idF r j := fun r hr j hj => by
      unfold swF
      by_cases h1 : r = i
      · rw [if_pos h1, hih k j hk hj, id_val, id_val, if_neg (by omega), if_neg (by omega)]
      · rw [if_neg h1]
        by_cases h2 : r = k
        · rw [if_pos h2, hih i j (by omega) hj, id_val, id_val, if_neg (by omega), if_neg (by omega)]
        · rw [if_neg h2]; exact hih r j hr hj
    have hNi : swF M i k i i = M k i := by unfold swF; rw [if_pos rfl]
    have hNb := sw_bd b1 i k
    rw [← hNi] at hnz
    generalize swF M i k = N at *
    show elF N (rinv (N i i)) (fun r => N r i) i r j = idF r j
    have hinv : rmul (rinv (N i i)) (N i i) = 1 := by rw [rmul_comm _ _ (rinv_lt _) (hNb _ _), rmul_rinv _ (hNb _ _) hnz]
    unfold elF
    by_cases hji : j = i
    · subst hji
      by_cases h : r = j
      · subst h; rw [if_pos rfl, hinv, id_val, if_pos rfl]
      · rw [if_neg h, hinv, rmul_one _ (hNb _ _), Nat.xor_self, id_val, if_neg h]
    · have hz : N i j = 0 := by rw [hN i (by omega) j (by omega), id_val, if_neg (by omega)]
      by_cases h : r = i
      · rw [if_pos h, hz, rmul_zero_right, id_val, if_neg (by omega)]
      · rw [if_neg h, hz, rmul_zero_right, rmul_zero_right, Nat.xor_zero]
        exact hN r hr j (by omega)
set_option maxRecDepth 100000 in
/-- a sum over places two of which are exchanged -/
theorem sm_perm (f : Nat → Nat) (i k n : Nat) (hi : i < n) (hk : k < n) : sm (fun c => f (if c = i then k else if c = k then i else c)) n = sm f n := by
  by_cases hik : i = k
  · subst hik
    refine sm_congr _ _ n (fun m _ => ?_)
    by_cases h : m = i
    · subst h; simp
    · simp [h]
  · have e : sm (fun c => f (if c = i then k else if c = k then i else c)) n = sm (fun c => f c ^^^ ((if c = i then f i ^^^ f k else 0) ^^^ (if c = k then f i ^^^ f k else 0))) n := by
      refine sm_congr _ _ n (fun m _ => ?_)
      by_cases h1 : m = i
      · subst h1
        rw [if_pos rfl, if_pos rfl, if_neg hik, Nat.xor_zero, ← Nat.xor_assoc, Nat.xor_self, Nat.zero_xor]
      · by_cases h2 : m = k
        · subst h2
          rw [if_neg h1, if_pos rfl, if_neg h1, if_pos rfl, Nat.zero_xor, Nat.xor_comm (f i), ← Nat.xor_assoc, Nat.xor_self, Nat.zero_xor]
        · rw [if_neg h1, if_neg h2, if_neg h1, if_neg h2, Nat.xor_self, Nat.xor_zero]
    rw [e, sm_xor, sm_xor, sm_one, sm_one, if_pos hi, if_pos hk, Nat.xor_self, Nat.xor_zero]
set_option maxRecDepth 100000 in
/-- what undoes an elimination, from the other side -/
theorem ml_undo (G E N : Nat → Nat → Nat) (hG : Bd2 G) (hE : Bd2 E) (hN : Bd2 N) (i n : Nat) (hi : i < n) (hnz : N i i ≠ 0) :
    ∃ G', Bd2 G' ∧ ∀ r c, mlF G' (elF E (rinv (N i i)) (fun r => N r i) i) n r c = mlF G E n r c := by
  have hinv : rmul (N i i) (rinv (N i i)) = 1 := rmul_rinv _ (hN _ _) hnz
  have hs := rinv_lt (N i i)
  generalize rinv (N i i) = s at *
  refine ⟨fun r c => if c = i then rmul (N i i) (G r i) ^^^ sm (fun m => if m = i then 0 else rmul (G r m) (N m i)) n else G r c, fun r c => ?_, fun r c => ?_⟩
  · dsimp only
    split
    · exact xor_lt256 (rmul_lt _ _) (sm_lt _ (fun m => by split; decide; exact rmul_lt _ _) n)
    · exact hG _ _
  · unfold mlF
    rw [dt_sm, dt_sm]
    have hy : rmul s (E i c) < 256 := rmul_lt _ _
    have e0 : rmul (rmul (N i i) (G r i)) (rmul s (E i c)) = rmul (G r i) (E i c) := by
      rw [rmul_comm (N i i) (G r i) (hN _ _) (hG _ _), ← rmul_assoc _ _ _ (hG _ _) (hN _ _) hy, rmul_assoc (N i i) s (E i c) (hN _ _) hs (hE _ _), hinv, one_mul8 _ (hE _ _)]
    have e1 : rmul (sm (fun m => if m = i then 0 else rmul (G r m) (N m i)) n) (rmul s (E i c)) = sm (fun m => if m = i then 0 else rmul (rmul (G r m) (N m i)) (rmul s (E i c))) n := by
      rw [sm_mulr]
      refine sm_congr _ _ n (fun m _ => ?_)
      by_cases h : m = i
      · rw [if_pos h, if_pos h, rmul_zero_left]
      · rw [if_neg h, if_neg h]
    have e2 : sm (fun m => rmul ((fun r c => if c = i then rmul (N i i) (G r i) ^^^ sm (fun m => if m = i then 0 else rmul (G r m) (N m i)) n else G r c) r m) (elF E s (fun r => N r i) i m c)) n
        = sm (fun m => rmul (G r m) (E m c) ^^^ ((if m = i then 0 else rmul (rmul (G r m) (N m i)) (rmul s (E i c))) ^^^ (if m = i then sm (fun m => if m = i then 0 else rmul (rmul (G r m) (N m i)) (rmul s (E i c))) n else 0))) n := by
      refine sm_congr _ _ n (fun m _ => ?_)
      dsimp only
      unfold elF
      by_cases h : m = i
      · subst h
        rw [if_pos rfl, if_pos rfl, if_pos rfl, if_pos rfl, rmul_xor_left, e0, e1, Nat.zero_xor]
      · rw [if_neg h, if_neg h, if_neg h, if_neg h, Nat.xor_zero, rmul_xor_right, rmul_assoc _ _ _ (hG _ _) (hN _ _) hy]
    rw [e2, sm_xor, sm_xor, sm_one, if_pos hi, Nat.xor_self, Nat.xor_zero]
set_option maxRecDepth 100000 in
theorem iv_left (F : Nat → Nat → Nat) (hF : Bd2 F) (n i : Nat) (hp : ∀ j, j < i → pvF (ivS F n j).1 j n j < n) (hi : i ≤ n) : ∃ G, Bd2 G ∧ ∀ r c, r < n → c < n → mlF G (ivS F n i).2 n r c = idF r c := by
  induction i with
  | zero => rw [iv_zero]; exact ⟨idF, id_bd, fun r c hr _ => ml_id_l idF id_bd n r c hr⟩
  | succ i ih =>
    obtain ⟨G, hG, h⟩ := ih (fun j hj => hp j (by omega)) (by omega)
    have hk := hp i (by omega)
    obtain ⟨p1, p2, p3, p4⟩ := pv_facts (ivS F n i).1 i n i (by omega)
    have hnz := p3 hk
    obtain ⟨b1, b2⟩ := iv_bd F hF n i
    rw [iv_next2]
    generalize pvF (ivS F n i).1 i n i = k at *
    generalize (ivS F n i).1 = M at *
    generalize (ivS F n i).2 = E at *
    have hNi : swF M i k i i = M k i := by unfold swF; rw [if_pos rfl]
    rw [← hNi] at hnz
    obtain ⟨G', hG', h'⟩ := ml_undo (fun r c => G r (if c = i then k else if c = k then i else c)) (swF E i k) (swF M i k) (fun r c => hG _ _) (sw_bd b2 i k) (sw_bd b1 i k) i n (by omega) hnz
    refine ⟨G', hG', fun r c hr hc => ?_⟩
    show mlF G' (elF (swF E i k) _ _ i) n r c = _
    rw [h' r c, ← h r c hr hc]
    unfold mlF
    rw [dt_sm, dt_sm]
    exact sm_perm (fun m => rmul (G r m) (E m c)) i k n (by omega) hk
set_option maxRecDepth 100000 in
/-- what Invert gives is the inverse from either side -/
theorem iv_inverse (F : Nat → Nat → Nat) (hF : Bd2 F) (n : Nat) (hp : ∀ j, j < n → pvF (ivS F n j).1 j n j < n) (r c : Nat) (hr : r < n) (hc : c < n) :
    mlF (ivS F n n).2 F n r c = idF r c ∧ mlF F (ivS F n n).2 n r c = idF r c := by
  have h1 : ∀ r c, r < n → c < n → mlF (ivS F n n).2 F n r c = idF r c := fun r c hr hc => by
    rw [iv_prod F hF n n r c hr hp (Nat.le_refl _), iv_cols F hF n n hp (Nat.le_refl _) r c hr hc]
  obtain ⟨G, hG, h2⟩ := iv_left F hF n n hp (Nat.le_refl _)
  have hb := (iv_bd F hF n n).2
  refine ⟨h1 r c hr hc, ?_⟩
  have h3 : ∀ m, m < n → G r m = F r m := fun m hm => by
    rw [← ml_id_r G hG n r m hm, ← ml_id_l F hF n r m hr]
    rw [ml_congr G G idF (mlF (ivS F n n).2 F n) n r m (fun _ _ => rfl) (fun j hj => (h1 j m hj hm).symm), ← ml_assoc G _ F hG hb hF]
    exact ml_congr _ _ _ _ n r m (fun j hj => h2 r j hr hj) (fun _ _ => rfl)
  rw [← h2 r c hr hc]
  exact ml_congr _ _ _ _ n r c (fun m hm => (h3 m hm).symm) (fun _ _ => rfl)
end Go.Proofs.Ytmfagdbocidfjaa

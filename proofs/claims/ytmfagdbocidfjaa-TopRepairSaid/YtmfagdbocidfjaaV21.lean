import Derived.Test.YtmfagdbocidfjaaV20
/- The contracts of package matrix's Row, of Same over bytes, of Powers where it refuses. -/
namespace Go.Proofs.Ytmfagdbocidfjaa
open Go.RowKit
set_option maxRecDepth 100000 in
/-- append([]byte{}, x...) where x came up after the empty row -/
theorem wpList_appB2 {ops : Array Oper} {rest : List Oper} {o : Oper} {a : Act} {w : World} {Q : Exit → Act → World → Prop} (hgd : o.guard = none) (s x : Operand)
    (ho : o.op = .call { callee := .builtin .append, args := #[s, x], argTypes := #[71, 71] })
    (W : World) (hs : a.eval s = .slice (some ⟨W.heap.size, 0, none⟩) 0 0) (hw : Below (W.alloc (.cells #[] 5)).heap.size (W.alloc (.cells #[] 5)) w)
    (A : Option Addr) (c n : Nat) (f : Nat → Nat) (hx : a.eval x = .slice A n c) (hsl : By w A n f) (hnone : A = none → n = 0 ∧ c = 0) (hn : n ≤ 100000000)
    (h : ∀ g cap w', W.heap.size ≤ g → n ≤ cap → cap ≤ maxLen → BRow w' g n f → Below W.heap.size W w' → wpList Try.prog ops Q rest (a.put o.dst (.slice (some ⟨g, 0, none⟩) n cap)) w') :
    wpList Try.prog ops Q (o :: rest) a w := by
  obtain ⟨i0, hi, hz0, hz1, hz2⟩ := info_parts info8
  have hown0 := World.ownsRow_lit (base := W.heap.size) (e := 5) (size := 1) W #[] 0 (Nat.le_refl _) (by unfold maxLen; omega) rfl
  have hB0 : Below W.heap.size W (W.alloc (.cells #[] 5)) := (Below.refl _ _).alloc (Nat.le_refl _) _
  have hlz0 : W.heap.size < (W.alloc (.cells #[] 5)).heap.size := by show _ < (W.heap.push _).size; rw [Array.size_push]; omega
  have hown : w.ownsRow W.heap.size 5 1 (.slice (some ⟨W.heap.size, 0, none⟩) 0 0) 0 [] := OwnZ.below (k := .u8) (f := fun _ => 0) (n := 0) hown0 hw
  have hb1 : w.heap[W.heap.size]? = some (.cells #[] 5 (0, 0)) := (hw.block _ hlz0).trans (last_block0 W _ _ rfl)
  have hlz : W.heap.size < w.heap.size := Nat.lt_of_lt_of_le hlz0 hw.size
  have hB1 : Below W.heap.size W w := hB0.trans (hw.mono (Nat.le_of_lt hlz0))
  cases A with
  | none =>
    obtain ⟨rfl, rfl⟩ := hnone rfl
    refine wpList_append_own_none hgd s x 71 ho W.heap.size 5 i0 1 Try.underlying71 hi _ 0 _ hs hown hx ?_
    exact h W.heap.size 0 _ (Nat.le_refl _) (Nat.le_refl _) (by unfold maxLen; omega) ⟨_, hb1, by simp, fun i hi => absurd hi (by omega)⟩ hB1
  | some ad =>
    refine wpList_append_own _ hgd s x 71 ho W.heap.size 5 i0 (.int .u8 0) 1 1 Try.underlying71 hi hz0 hz1 hz2 rfl (by decide) _ 0 _ hs hown ad n c (rowB ((List.range n).map f)) hx (by rw [rowB_length]; simp) ?_ ?_ (by unfold maxLen; omega) (by omega) (Nat.le_of_lt hlz) ?_
    · intro j u hj
      rw [rowB_get] at hj
      obtain ⟨y, hy, hyu⟩ := Option.map_eq_some_iff.1 hj
      obtain ⟨b, off, he, hc⟩ := hsl.sl j y hy
      injection he with he
      subst he hyu
      by_cases hz : j = 0
      · subst hz; simpa [Addr.add] using hc
      · simpa [Addr.add, hz] using hc
    · intro u hu
      unfold rowB at hu
      obtain ⟨y, _, rfl⟩ := List.mem_map.1 hu
      rfl
    · intro v' w' h1 h2 h3
      have hne : v' ≠ .slice none 0 0 := fun e => by have := (h3.1 e).1; simp at this
      obtain ⟨g, cap, rfl, hg1, hg2⟩ := own_open h1 hne
      have e0 : 0 + n = n := Nat.zero_add _
      rw [e0] at h1 ⊢
      obtain ⟨q1, q2, q3⟩ := own_cap h1
      refine h g cap w' hg1 q1 q2 (FRow.own h1 fun i hi => ?_) (below_of_only hB1 h2 (Nat.le_of_lt hlz) (Nat.le_refl _))
      show (rowB ((List.range n).map f))[i]? = _
      rw [rowB_get]
      simp [hi]
def RcPost (W : World) (C : Nat) (f : Nat → Nat) (e : Ending) (W' : World) : Prop := ∃ g cap, e = .returned (.slice (some ⟨g, 0, none⟩) C cap) ∧ C ≤ cap ∧ cap ≤ maxLen ∧ BRow W' g C f ∧ Below W.heap.size W W'
set_option maxRecDepth 100000 in
theorem rowA_none {a : Option Addr} {R C i cap : Nat} (h : a = none → R * C = 0 ∧ cap = 0) (hi : i < R) (e : rowA a C i = none) : C = 0 ∧ C = 0 := by
  have : C = 0 := by
    by_cases h0 : C = 0
    · exact h0
    · cases a with
      | none => exact (Nat.mul_eq_zero.1 (h rfl).1).resolve_left (by omega)
      | some x => unfold rowA at e; rw [if_neg h0] at e; cases e
  exact ⟨this, this⟩
attribute [local irreducible] gexp gtbl glog rmul rinv rpow zexp mixF blk wLoad wLoadRes loadAns wStore wStoreRes storeAns Plain flF BRow MRow MAt By IsGf
attribute [local go_sem ↓] ld_m0 sto_m0
attribute [local go_sem] ld_m sto_m loadAns_some storeAns_some mx_size mx_plain blk_alloc_if blk_setRow_if blk_drew_at blk_drewN_at rowPut_some blk_setCell_if cellPut_some
set_option maxRecDepth 100000 in
set_option maxHeartbeats 2000000 in
theorem m_powers_no (p : Value) (r c : Int) (w : World) (hn : r < 0 ∨ c < 0 ∨ 255 < r ∨ 255 < c) :
    Calls Try.prog 97 #[p, .int .i64 r, .int .i64 c] w (NoMPost w 50) := by
  have hz := zeroM
  have kn := Lib.hid (fun W => m_new_no r c W hn)
  have hB := below_one w (.cells #[.int .i64 0, .int .i64 0, .slice none 0 0] 188)
  have h0 := last_block0 w (.cells #[.int .i64 0, .int .i64 0, .slice none 0 0] 188) _ rfl
  have hsz : w.heap.size < (w.alloc (.cells #[.int .i64 0, .int .i64 0, .slice none 0 0] 188)).heap.size := by show _ < (w.heap.push _).size; rw [Array.size_push]; omega
  clear hn
  go_enter Try.func97, Try.ntmps97
  go_upto_region 1 with (fail)
  generalize World.alloc w _ = W at *
  have h0h := Lib.hid h0
  have hBh := Lib.hid hB
  clear h0 hB
  go_wp2_with fail
  refine (kn.out W).mono ?_
  rintro e w2 ⟨rfl, hb2⟩
  have hb2h := Lib.hid hb2
  have hWl := hb2.size
  clear hb2
  go_upto_region 2 with (fail)
  obtain ⟨x0, x1, x2⟩ := boxed w2 #[.int .i64 0, .int .i64 0, .slice none 0 0] #[.int .i64 0, .int .i64 0, .slice none 0 0] 188
  generalize World.setRow (World.alloc w2 _) _ _ = X at *
  have hr0 : X.heap[w.heap.size]? = _ := (x2.block w.heap.size (by omega)).trans ((hb2h.out.block w.heap.size hsz).trans h0h.out)
  have hr0b := blk_of hr0
  have b0 := blk_of x0
  have hB9 : Below w.heap.size w X := hBh.out.trans ((hb2h.out.mono hBh.out.size).trans (x2.mono (by omega)))
  have hB9h := Lib.hid hB9
  have hr0h := Lib.hid hr0
  have hx1 : w2.heap.size < X.heap.size := by omega
  clear hr0 hB9 x0 x1 x2
  go_wp2_with fail
  refine bodyPost_ret (v := .tuple #[.agg #[.int .i64 0, .int .i64 0, .slice none 0 0], .int .i64 50]) (results_row_tmp rfl _ _ w.heap.size 188 _ (0, 0) _ _ rfl rfl (setRow_heap _ _ _ _ _ _ hr0h.out) Try.underlying188 rfl mx_info) rfl ?hpost
  case hpost => exact ⟨rfl, below_setRow hB9h.out (Nat.le_refl _) _⟩
end Go.Proofs.Ytmfagdbocidfjaa

/- The contract of package matrix's Pick. Conditions: what the slices read as. -/
namespace Go.Proofs.Ytmfagdbocidfjaa
open Go.RowKit
/-- the rows ahead of k are picked -/
def pkK (F : Nat → Nat → Nat) (J : Nat → Int) (k r c : Nat) : Nat := if r < k then F (J r).toNat c else 0
set_option maxRecDepth 100000 in
theorem pkK_next (F : Nat → Nat → Nat) (J : Nat → Int) (k r c : Nat) : roF (pkK F J k) k (F (J k).toNat) r c = pkK F J (k + 1) r c := by
  unfold roF pkK
  by_cases h : r = k
  · subst h; rw [if_pos rfl, if_pos (by omega)]
  · rw [if_neg h]
    by_cases h2 : r < k
    · rw [if_pos h2, if_pos (by omega)]
    · rw [if_neg h2, if_neg (by omega)]
set_option maxRecDepth 100000 in
theorem pkK_end (F : Nat → Nat → Nat) (J : Nat → Int) (m r c : Nat) (hr : r < m) : pkK F J m r c = pkF F (fun i => (J i).toNat) r c := by unfold pkK pkF; rw [if_pos hr]
def PickPost (W : World) (n m C : Nat) (F : Nat → Nat → Nat) (J : Nat → Int) (e : Ending) (W' : World) : Prop := (n = m ∧ NewMPost W m C (pkF F (fun i => (J i).toNat)) e W') ∨ (n < m ∧ NoMPost W 50 e W')
attribute [local irreducible] gexp gtbl glog rmul rinv rpow zexp mixF blk wLoad wLoadRes loadAns wStore wStoreRes storeAns Plain flF BRow MRow MAt By IsGf
attribute [local go_sem ↓] ld_m0 sto_m0
attribute [local go_sem] ld_m sto_m loadAns_some storeAns_some mx_size mx_plain blk_alloc_if blk_setRow_if blk_drew_at blk_drewN_at rowPut_some blk_setCell_if cellPut_some
set_option maxRecDepth 100000 in
set_option maxHeartbeats 4000000 in
theorem m_pick (R C m n : Nat) (a rs : Option Addr) (cap rcap : Nat) (F : Nat → Nat → Nat) (J : Nat → Int) (w : World) (ha : MAt w a R C F) (hr : ZAt w .i64 rs m J) (hR : R ≤ 255) (hC : C ≤ 255) (hm : m ≤ 255) (hc : R * C ≤ cap) (hnm : n ≤ m)
    (hJ : ∀ j, j < n → 0 ≤ J j ∧ J j < R) (hJn : n < m → ¬ (0 ≤ J n ∧ J n < R)) :
    Calls Try.prog 98 #[.agg #[.int .i64 (R : Nat), .int .i64 (C : Nat), .slice a (R * C) cap], .slice rs m rcap] w (PickPost w n m C F J) := by
  have hz := zeroM
  obtain ⟨h0, h1, hsz, hB⟩ := two_allocs w (.cells #[.int .i64 (R : Nat), .int .i64 (C : Nat), .slice a (R * C) cap] 188) (.cells #[.int .i64 0, .int .i64 0, .slice none 0 0] 188)
  have hrh := Lib.hid hr
  have hah := Lib.hid ha
  have hJh := Lib.hid hJ
  have hJnh := Lib.hid hJn
  have krt := Lib.hid (fun y => right_nat R C hR hC ▸ m_right R C a (R * C) cap y)
  have kn := Lib.hid (fun y => m_new m C y hm hC)
  have kro := Lib.hid (fun k g y (hk : k < m) => m_row_own m C k g (m * C) y hk hm hC (Nat.le_refl _))
  have krm := Lib.hid (fun i y (h : MAt y a R C F) (hi : i < R) => m_row R C i a cap y (h.some (by omega)) hi hR hC hc)
  obtain ⟨N, hNe⟩ : ∃ N, R * C = N := ⟨_, rfl⟩
  rw [hNe] at krt krm h0 ⊢
  rw [hNe] at h1 hsz hB
  obtain ⟨N2, hNe2⟩ : ∃ N2, m * C = N2 := ⟨_, rfl⟩
  rw [hNe2] at kro
  have hN2 := Lib.hid hNe2
  clear ha hr hJ hJn hc hNe hNe2
  have d0 : decide (255 < m) = false := decide_eq_false (by omega)
  have d1 : decide ((255 : Int) < (m : Int)) = false := decide_eq_false (by omega)
  go_enter Try.func98, Try.ntmps98
  go_upto_region 1 with (fail)
  generalize World.alloc (World.alloc w _) _ = W at *
  have hx0 : w.heap.size < W.heap.size := by omega
  have hx1 : w.heap.size + 1 < W.heap.size := by omega
  have hwW : w.heap.size ≤ W.heap.size := by omega
  have h0h := Lib.hid (blk_of h0)
  have h1h := Lib.hid h1
  have hBh := Lib.hid hB
  have b0 := h0h.out
  clear h0 h1 hsz hB
  go_wp2_with fail
  refine (krt.out W).mono ?_
  rintro e w2 ⟨rfl, hb2⟩
  have hb2h := Lib.hid hb2
  have c1 : w2.cell? ⟨w.heap.size, 1, none⟩ = some (.int .i64 (C : Nat)) := (cell_of_block (blk_heap ((blk_below hb2 hx0).trans h0h.out))).trans rfl
  have hs2 : W.heap.size ≤ w2.heap.size := hb2.size
  clear hb2 b0
  go_wp2_with fail
  refine (kn.out w2).mono ?_
  rintro e w3 ⟨g, rfl, hg, hmg, hb3⟩
  have hmgh := Lib.hid hmg
  have hgl := hmg.lt
  have hb3h := Lib.hid (below_step hb2h.out hs2 hb3)
  have hs3 : w2.heap.size ≤ w3.heap.size := hb3.size
  rw [hN2.out]
  clear hmg hb3 c1
  go_upto_region 4 with (fail)
  obtain ⟨x0, x1, x2⟩ := boxed w3 #[.int .i64 0, .int .i64 0, .slice none 0 0] #[.int .i64 (m : Nat), .int .i64 (C : Nat), .slice (some ⟨g, 0, none⟩) N2 N2] 188
  generalize World.setRow (World.alloc w3 _) _ _ = X at *
  have hmX : Hid (MRow X g m C (pkK F J 0)) := hide ((hmgh.out.below x2 hgl).congr (fun r c _ _ => by unfold pkK; rw [if_neg (by omega)]))
  have hX3 : w3.heap.size < X.heap.size := by omega
  have hx0h := Lib.hid x0
  have hWX := Lib.hid (below_step hb3h.out hb3h.out.size x2)
  have hsW3 : W.heap.size ≤ w3.heap.size := by omega
  have hg3 : w3.heap.size ≠ g := by omega
  have hgW : W.heap.size ≤ g := by omega
  clear x0 x1 x2
  have hS : Hid (∀ y, X.grownBy y (some g) → (fun y : World => blk y w.heap.size = some (.cells #[.int .i64 (R : Nat), .int .i64 (C : Nat), .slice a N cap] 188 (0, 0)) ∧ blk y w3.heap.size = some (.cells #[.int .i64 (m : Nat), .int .i64 (C : Nat), .slice (some ⟨g, 0, none⟩) N2 N2] 188 (0, 0))) y ∧ Below W.heap.size W y) := hide (fun y hy => by
    have hWy : Below W.heap.size W y := below_grown hWX.out (Nat.le_refl _) hy (fun p hp => by cases hp; exact hgW)
    exact ⟨⟨(blk_below hWy hx0).trans h0h.out, blk_of ((hy.block w3.heap.size hX3 (by intro e; injection e with e; exact hg3 e)).trans hx0h.out)⟩, hWy⟩)
  go_upto_region 5 with (fail)
  go_loopw [29] (fun iv wr => ∃ k : Nat, k ≤ n ∧ iv = .int .i64 (k : Nat) ∧ Hid (MRow wr g m C (pkK F J k)) ∧ Hid (X.grownBy wr (some g))) (fun iv _ => m - (intOf iv).toNat)
  case atStart => exact ⟨0, Nat.zero_le _, rfl, hmX, hide (only_refl _ _)⟩
  case round =>
    obtain ⟨k, hk, rfl, hM, hG⟩ := hrel
    clear hmX
    have hWr := (hS.out _ hG.out).2
    have hWrh := Lib.hid hWr
    have b2 := (hS.out _ hG.out).1.1
    have b3 := (hS.out _ hG.out).1.2
    have b1 := (hWr.block _ hx1).trans h1h.out
    have b1b := blk_of b1
    have b1h := Lib.hid b1
    have c0 : wr.cell? ⟨w.heap.size, 0, none⟩ = some (.int .i64 (R : Nat)) := (cell_of_block (blk_heap b2)).trans rfl
    have hwB := Lib.hid (hBh.out.trans (hWr.mono hwW))
    clear hWr b1
    by_cases hkm : k < m
    · have i1 : (k : Int) < (m : Int) := by omega
      obtain ⟨bb, oo, hse, hrc0⟩ := hrh.out k hkm
      subst hse
      have cr : wr.cell? ⟨bb, oo + k, none⟩ = some (.int .i64 (J k)) := (hwB.out.cell (p := ⟨bb, oo + k, none⟩) (cell_block_lt hrc0)).trans hrc0
      clear hrc0
      by_cases hkn : k < n
      · obtain ⟨hj0, hj1⟩ := hJh.out k hkn
        have hnx := Lib.hid (fun r c => pkK_next F J k r c)
        obtain ⟨j, hj⟩ : ∃ j : Nat, J k = j := ⟨(J k).toNat, by omega⟩
        have hjt : (J k).toNat = j := by omega
        rw [hjt] at hnx
        rw [hj] at cr hj1
        have hjR : j < R := by omega
        have e0 : decide ((j : Int) < 0) = false := decide_eq_false (by omega)
        have e1 : decide ((R : Int) ≤ (j : Int)) = false := decide_eq_false (by omega)
        have e2 : decide (R ≤ j) = false := decide_eq_false (by omega)
        clear hj hjt hj0 hj1
        go_upto_region 9 with (fail)
        have hG1 := Lib.hid (only_drewN hG.out 1)
        have hM1 := Lib.hid (hM.out.drewN 1)
        have hHeld0 := (hS.out _ hG1.out).1
        have hHeld : (fun y : World => blk y w.heap.size = some (.cells #[.int .i64 (R : Nat), .int .i64 (C : Nat), .slice a N cap] 188 (0, 0)) ∧ blk y w3.heap.size = some (.cells #[.int .i64 (m : Nat), .int .i64 (C : Nat), .slice (some ⟨g, 0, none⟩) N2 N2] 188 (0, 0))) wr.drew := hHeld0
        clear e0 e1 e2 cr c0
        refine h_begin 7 (fun y : World => blk y w.heap.size = some (.cells #[.int .i64 (R : Nat), .int .i64 (C : Nat), .slice a N cap] 188 (0, 0)) ∧ blk y w3.heap.size = some (.cells #[.int .i64 (m : Nat), .int .i64 (C : Nat), .slice (some ⟨g, 0, none⟩) N2 N2] 188 (0, 0))) rfl (by kernel_rfl) hHeld ?_
        first
          | (refine h_run (i := 0) (v := ?_) hHeld rfl (by kernel_rfl) (by kernel_rfl) (by kernel_rfl) ?_ ?_ ?_
             rotate_left
             · rfl
             · (intro x hSx; (try dsimp only at hSx); go_simp <;> with_reducible rfl)
             simp only [Act.put, List.setIfInBounds_toArray, List.set_cons_zero, List.set_cons_succ])
          | (refine h_skip (i := 0) hHeld rfl (by kernel_rfl) (by kernel_rfl) (by kernel_rfl) ?_ ?_
             · rfl
             simp only [Act.put, List.setIfInBounds_toArray, List.set_cons_zero, List.set_cons_succ])
        first
          | (refine h_run (i := 1) (v := ?_) hHeld rfl (by kernel_rfl) (by kernel_rfl) (by kernel_rfl) ?_ ?_ ?_
             rotate_left
             · rfl
             · (intro x hSx; (try dsimp only at hSx); go_simp <;> with_reducible rfl)
             simp only [Act.put, List.setIfInBounds_toArray, List.set_cons_zero, List.set_cons_succ])
          | (refine h_skip (i := 1) hHeld rfl (by kernel_rfl) (by kernel_rfl) (by kernel_rfl) ?_ ?_
             · rfl
             simp only [Act.put, List.setIfInBounds_toArray, List.set_cons_zero, List.set_cons_succ])
        first
          | (refine h_run (i := 3) (v := ?_) hHeld rfl (by kernel_rfl) (by kernel_rfl) (by kernel_rfl) ?_ ?_ ?_
             rotate_left
             · rfl
             · (intro x hSx; (try dsimp only at hSx); go_simp <;> with_reducible rfl)
             simp only [Act.put, List.setIfInBounds_toArray, List.set_cons_zero, List.set_cons_succ])
          | (refine h_skip (i := 3) hHeld rfl (by kernel_rfl) (by kernel_rfl) (by kernel_rfl) ?_ ?_
             · rfl
             simp only [Act.put, List.setIfInBounds_toArray, List.set_cons_zero, List.set_cons_succ])
        first
          | (refine h_run (i := 4) (v := ?_) hHeld rfl (by kernel_rfl) (by kernel_rfl) (by kernel_rfl) ?_ ?_ ?_
             rotate_left
             · rfl
             · (intro x hSx; (try dsimp only at hSx); go_simp <;> with_reducible rfl)
             simp only [Act.put, List.setIfInBounds_toArray, List.set_cons_zero, List.set_cons_succ])
          | (refine h_skip (i := 4) hHeld rfl (by kernel_rfl) (by kernel_rfl) (by kernel_rfl) ?_ ?_
             · rfl
             simp only [Act.put, List.setIfInBounds_toArray, List.set_cons_zero, List.set_cons_succ])
        clear hHeld hHeld0
        refine h_call (i := 2) (fun y : World => blk y w.heap.size = some (.cells #[.int .i64 (R : Nat), .int .i64 (C : Nat), .slice a N cap] 188 (0, 0)) ∧ blk y w3.heap.size = some (.cells #[.int .i64 (m : Nat), .int .i64 (C : Nat), .slice (some ⟨g, 0, none⟩) N2 N2] 188 (0, 0))) (fun _ h => h) (kro.out k g wr.drew hkm) rfl (by kernel_rfl) rfl ?_ ?_
        · go_simp <;> with_reducible rfl
        rintro e y1 ⟨rfl, hy1⟩
        have hG2 := Lib.hid (only_trans hG1.out (only_of_below hy1 _))
        have hM2 := Lib.hid (hM1.out.below hy1 hM1.out.lt)
        refine ⟨_, rfl, (hS.out _ hG2.out).1, ?_⟩
        clear hy1
        have hMa := Lib.hid (hah.out.below (hBh.out.trans ((hS.out _ hG2.out).2.mono hwW)))
        refine h_call (i := 5) (fun y : World => blk y w.heap.size = some (.cells #[.int .i64 (R : Nat), .int .i64 (C : Nat), .slice a N cap] 188 (0, 0)) ∧ blk y w3.heap.size = some (.cells #[.int .i64 (m : Nat), .int .i64 (C : Nat), .slice (some ⟨g, 0, none⟩) N2 N2] 188 (0, 0))) (fun _ h => h) (krm.out j y1 hMa.out hjR) rfl (by kernel_rfl) rfl ?_ ?_
        · go_simp <;> with_reducible rfl
        rintro e y2 ⟨rfl, hy2⟩
        have hG3 := Lib.hid (only_trans hG2.out (only_of_below hy2 _))
        have hM3 := Lib.hid (hM2.out.below hy2 hM2.out.lt)
        refine ⟨_, rfl, (hS.out _ hG3.out).1, ?_⟩
        have hrow := (hMa.out.below hy2).row j hjR
        clear hy2
        obtain ⟨y3, hrun, hM4, hgr⟩ := run_copy_mrow y2 g m C k C C (pkK F J k) (rowA a C j) (F j) 3 hM3.out hkm hrow
        have hG4 := Lib.hid (only_trans hG3.out hgr)
        have hM5 := Lib.hid (hM4.congr (fun r c _ _ => hnx.out r c))
        refine h_value (i := 6) (v := goInt C) (w' := y3) (fun y : World => blk y w.heap.size = some (.cells #[.int .i64 (R : Nat), .int .i64 (C : Nat), .slice a N cap] 188 (0, 0)) ∧ blk y w3.heap.size = some (.cells #[.int .i64 (m : Nat), .int .i64 (C : Nat), .slice (some ⟨g, 0, none⟩) N2 N2] 188 (0, 0))) (fun _ h => h) rfl (by kernel_rfl) rfl ?_ (hS.out _ hG4.out).1 ?_
        · exact exec_copy (.tmp 45) (.tmp 48) _ _ rfl rfl rfl hrun
        refine h_done (by kernel_rfl) ?_
        clear hrun hM4 hgr hrow
        go_wp2_with fail
        go_roundw
        case rel => exact ⟨k + 1, by omega, by go_num, hM5, hG4⟩
        case measure => simp [intOf]; omega
      · obtain rfl : k = n := by omega
        have hbad := hJnh.out hkm
        obtain ⟨x, hx⟩ : ∃ x, J k = x := ⟨_, rfl⟩
        rw [hx] at cr hbad
        have hfin : Hid (∀ D, PickPost w k m C F J (.returned (.tuple #[.agg #[.int .i64 0, .int .i64 0, .slice none 0 0], .int .i64 50])) (wr.setRow (w.heap.size + 1) D)) := hide (fun D => .inr ⟨hkm, rfl, below_setRow hwB.out (by omega) _⟩)
        clear hx
        by_cases hx0 : x < 0
        · have e0 : decide (x < 0) = true := decide_eq_true hx0
          clear hbad hx0
          go_wp2_with fail
          refine bodyPost_ret (v := .tuple #[.agg #[.int .i64 0, .int .i64 0, .slice none 0 0], .int .i64 50]) (results_row_tmp rfl _ _ (w.heap.size + 1) 188 _ (0, 0) _ _ rfl rfl (setRow_heap _ _ _ _ _ _ b1h.out) Try.underlying188 rfl mx_info) rfl (hfin.out _)
        · have e0 : decide (x < 0) = false := decide_eq_false hx0
          have e1 : decide ((R : Int) ≤ x) = true := decide_eq_true (by omega)
          clear hbad hx0
          go_wp2_with fail
          refine bodyPost_ret (v := .tuple #[.agg #[.int .i64 0, .int .i64 0, .slice none 0 0], .int .i64 50]) (results_row_tmp rfl _ _ (w.heap.size + 1) 188 _ (0, 0) _ _ rfl rfl (setRow_heap _ _ _ _ _ _ b1h.out) Try.underlying188 rfl mx_info) rfl (hfin.out _)
    · obtain rfl : k = m := by omega
      obtain rfl : n = k := by omega
      have i1 : decide ((n : Int) < (n : Int)) = false := by simp
      have hMf := Lib.hid (hM.out.congr (fun r c hr _ => pkK_end F J n r c hr))
      have hne : g ≠ w.heap.size + 1 := by omega
      have hgw : w.heap.size ≤ g := by omega
      have hfin : Hid (∀ D, PickPost w n n C F J (.returned (.tuple #[.agg #[.int .i64 (n : Nat), .int .i64 (C : Nat), .slice (some ⟨g, 0, none⟩) N2 N2], .int .i64 0])) (wr.setRow (w.heap.size + 1) D)) := hide (fun D => .inl ⟨rfl, g, by rw [hN2.out], hgw, hMf.out.stay (setRow_other _ _ _ _ hne), below_setRow hwB.out (by omega) _⟩)
      clear c0
      go_wp2_with fail
      refine bodyPost_ret (v := .tuple #[.agg #[.int .i64 (n : Nat), .int .i64 (C : Nat), .slice (some ⟨g, 0, none⟩) N2 N2], .int .i64 0]) (results_row_tmp rfl _ _ (w.heap.size + 1) 188 _ (0, 0) _ _ rfl rfl (setRow_heap _ _ _ _ _ _ b1h.out) Try.underlying188 rfl mx_info) rfl (hfin.out _)
set_option maxRecDepth 100000 in
set_option maxHeartbeats 2000000 in
theorem m_pick_no (r c : Int) (a rs : Option Addr) (len cap m rcap : Nat) (w : World) (h : rightB r c len = false ∨ 255 < m) (hmm : (m : Int) ≤ 9223372036854775807) :
    Calls Try.prog 98 #[.agg #[.int .i64 r, .int .i64 c, .slice a len cap], .slice rs m rcap] w (NoMPost w 50) := by
  have hz := zeroM
  obtain ⟨h0, h1, hsz, hB⟩ := two_allocs w (.cells #[.int .i64 r, .int .i64 c, .slice a len cap] 188) (.cells #[.int .i64 0, .int .i64 0, .slice none 0 0] 188)
  have krt := Lib.hid (fun y => m_right r c a len cap y)
  obtain ⟨b, hb⟩ : ∃ b, rightB r c len = b := ⟨_, rfl⟩
  rw [hb] at krt h
  clear hb
  go_enter Try.func98, Try.ntmps98
  go_upto_region 1 with (fail)
  generalize World.alloc (World.alloc w _) _ = W at *
  have hx0 : w.heap.size < W.heap.size := by omega
  have hx1 : w.heap.size + 1 < W.heap.size := by omega
  have hwW : w.heap.size ≤ W.heap.size := by omega
  have h0h := Lib.hid (blk_of h0)
  have h1h := Lib.hid h1
  have hBh := Lib.hid hB
  have b0 := h0h.out
  clear h0 h1 hsz hB
  go_wp2_with fail
  refine (krt.out W).mono ?_
  rintro e w2 ⟨rfl, hb2⟩
  have b1h := Lib.hid ((hb2.block _ hx1).trans h1h.out)
  have b1b := blk_of b1h.out
  have hfin : Hid (∀ D, NoMPost w 50 (.returned (.tuple #[.agg #[.int .i64 0, .int .i64 0, .slice none 0 0], .int .i64 50])) (w2.setRow (w.heap.size + 1) D)) := hide (fun D => ⟨rfl, below_setRow (hBh.out.trans (hb2.mono hwW)) (by omega) _⟩)
  clear hb2 b0
  cases b with
  | false =>
    clear h hmm
    go_wp2_with fail
    refine bodyPost_ret (v := .tuple #[.agg #[.int .i64 0, .int .i64 0, .slice none 0 0], .int .i64 50]) (results_row_tmp rfl _ _ (w.heap.size + 1) 188 _ (0, 0) _ _ rfl rfl (setRow_heap _ _ _ _ _ _ b1h.out) Try.underlying188 rfl mx_info) rfl (hfin.out _)
  | true =>
    have hm : 255 < m := h.resolve_left (by simp)
    have d0 : decide (255 < m) = true := decide_eq_true hm
    have d1 : decide ((255 : Int) < (m : Int)) = true := decide_eq_true (by omega)
    clear h hm hmm
    go_wp2_with fail
    refine bodyPost_ret (v := .tuple #[.agg #[.int .i64 0, .int .i64 0, .slice none 0 0], .int .i64 50]) (results_row_tmp rfl _ _ (w.heap.size + 1) 188 _ (0, 0) _ _ rfl rfl (setRow_heap _ _ _ _ _ _ b1h.out) Try.underlying188 rfl mx_info) rfl (hfin.out _)
end Go.Proofs.Ytmfagdbocidfjaa

import Derived.Test.YtmfagdbocidfjaaV08
/- Matrices of one's own: two rows change places (swap). -/
namespace Go.Proofs.Ytmfagdbocidfjaa
open Go.RowKit
/-- two rows change places -/
def swF (F : Nat → Nat → Nat) (i k r c : Nat) : Nat := F (if r = i then k else if r = k then i else r) c
/-- the first j columns of them have -/
def swK (F : Nat → Nat → Nat) (i k j r c : Nat) : Nat := if c < j then swF F i k r c else F r c
set_option maxRecDepth 100000 in
theorem swK_zero (F : Nat → Nat → Nat) (i k r c : Nat) : swK F i k 0 r c = F r c := by unfold swK; rw [if_neg (by omega)]
set_option maxRecDepth 100000 in
theorem swF_self (F : Nat → Nat → Nat) (i r c : Nat) : F r c = swF F i i r c := by
  unfold swF
  by_cases h : r = i
  · rw [if_pos h, h]
  · rw [if_neg h, if_neg h]
set_option maxRecDepth 100000 in
theorem swK_next (F : Nat → Nat → Nat) (i k j : Nat) (hik : i ≠ k) (r c : Nat) : stF (stF (swK F i k j) i j (F k j)) k j (F i j) r c = swK F i k (j + 1) r c := by
  unfold stF swK swF
  by_cases h1 : r = k ∧ c = j
  · obtain ⟨rfl, rfl⟩ := h1
    rw [if_pos ⟨rfl, rfl⟩, if_pos (by omega), if_neg (fun e => hik e.symm), if_pos rfl]
  · rw [if_neg h1]
    by_cases h2 : r = i ∧ c = j
    · obtain ⟨rfl, rfl⟩ := h2
      rw [if_pos ⟨rfl, rfl⟩, if_pos (by omega), if_pos rfl]
    · rw [if_neg h2]
      by_cases h3 : c < j
      · have h4 : c < j + 1 := by omega
        simp only [h3, h4, if_true]
      · by_cases h4 : c < j + 1
        · obtain rfl : c = j := by omega
          have n1 : ¬ r = i := fun e => h2 ⟨e, rfl⟩
          have n2 : ¬ r = k := fun e => h1 ⟨e, rfl⟩
          simp only [h3, h4, n1, n2, if_true, if_false]
        · simp only [h3, h4, if_false]
set_option maxRecDepth 100000 in
theorem swK_end (F : Nat → Nat → Nat) (i k C r c : Nat) (hc : c < C) : swK F i k C r c = swF F i k r c := by unfold swK; rw [if_pos hc]
set_option maxRecDepth 100000 in
theorem swK_at (F : Nat → Nat → Nat) (i k j r : Nat) : swK F i k j r j = F r j := by unfold swK; rw [if_neg (by omega)]
def RowsPost (w : World) (g R C : Nat) (F : Nat → Nat → Nat) (e : Ending) (w' : World) : Prop := e = .returned (.tuple #[]) ∧ MRow w' g R C F ∧ w.grownBy w' (some g)
attribute [local irreducible] gexp gtbl glog rmul rinv rpow zexp mixF blk wLoad wLoadRes loadAns wStore wStoreRes storeAns Plain flF BRow MRow
attribute [local go_sem ↓] ld_m0 sto_m0
attribute [local go_sem] ld_m sto_m loadAns_some storeAns_some mx_size mx_plain blk_alloc_if blk_setRow_if blk_drew_at blk_drewN_at rowPut_some blk_setCell_if cellPut_some
set_option maxRecDepth 100000 in
theorem beq_cast_f (i k : Nat) (h : i ≠ k) : (((i : Nat) : Int) == (k : Int)) = false := by simp; omega
set_option maxRecDepth 100000 in
theorem beq_cast_t (i : Nat) : (((i : Nat) : Int) == (i : Int)) = true := by simp
set_option maxRecDepth 100000 in
set_option maxHeartbeats 4000000 in
theorem m_swap (g R C i k cap : Nat) (F : Nat → Nat → Nat) (w : World) (hm : MRow w g R C F) (hi : i < R) (hk : k < R) (hR : R ≤ 255) (hC : C ≤ 255) (hc : R * C ≤ cap) :
    Calls Try.prog 122 #[.agg #[.int .i64 (R : Nat), .int .i64 (C : Nat), .slice (some ⟨g, 0, none⟩) (R * C) cap], .int .i64 (i : Nat), .int .i64 (k : Nat)] w (RowsPost w g R C (swF F i k)) := by
  have hgl := hm.lt
  have hB := below_one w (.cells #[.int .i64 (R : Nat), .int .i64 (C : Nat), .slice (some ⟨g, 0, none⟩) (R * C) cap] 188)
  have h0 := last_block0 w (.cells #[.int .i64 (R : Nat), .int .i64 (C : Nat), .slice (some ⟨g, 0, none⟩) (R * C) cap] 188) _ rfl
  have hsz : w.heap.size < (w.alloc (.cells #[.int .i64 (R : Nat), .int .i64 (C : Nat), .slice (some ⟨g, 0, none⟩) (R * C) cap] 188)).heap.size := by show _ < (w.heap.push _).size; rw [Array.size_push]; omega
  have hmh := Lib.hid hm
  have kri := Lib.hid (fun W => m_row R C i (some ⟨g, 0, none⟩) cap W (.inr ⟨g, 0, rfl⟩) hi hR hC hc)
  have krk := Lib.hid (fun W => m_row R C k (some ⟨g, 0, none⟩) cap W (.inr ⟨g, 0, rfl⟩) hk hR hC hc)
  have hsw := Lib.hid (fun (h : i ≠ k) j r c => swK_next F i k j h r c)
  have hsn := Lib.hid (fun j hj => idx_row (C := C) (R := R) (i := j) hj)
  have hA : Hid (∀ j, C ≠ 0 → rowA (some ⟨g, 0, none⟩) C j = some ⟨g, j * C, none⟩) := hide (fun j h => by rw [rowA_pos g 0 C j h, Nat.zero_add])
  clear hm
  by_cases hik : i = k
  · subst hik
    have t1 := beq_cast_t i
    go_enter Try.func122, Try.ntmps122
    go_upto_region 1 with (fail)
    generalize World.alloc w _ = W at *
    have hfin := Lib.hid ((hmh.out.below hB hgl).congr (fun r c _ _ => swF_self F i r c))
    have hBh := Lib.hid hB
    clear h0 hB
    go_wp2_with fail
    go_end0
    exact ⟨rfl, hfin.out, only_of_below hBh.out _⟩
  have t1 := beq_cast_f i k hik
  go_enter Try.func122, Try.ntmps122
  go_upto_region 1 with (fail)
  generalize World.alloc w _ = W at *
  have h0h := Lib.hid h0
  have hBh := Lib.hid hB
  have hmW := Lib.hid (hmh.out.below hB hgl)
  have hWl := hB.size
  clear h0 hB
  obtain ⟨A1, hA1⟩ : ∃ A1, rowA (some ⟨g, 0, none⟩) C i = A1 := ⟨_, rfl⟩
  obtain ⟨A2, hA2⟩ : ∃ A2, rowA (some ⟨g, 0, none⟩) C k = A2 := ⟨_, rfl⟩
  rw [hA1] at kri
  rw [hA2] at krk
  have hA1h := Lib.hid hA1
  have hA2h := Lib.hid hA2
  clear hA1 hA2
  obtain ⟨N, hNe⟩ : ∃ N, R * C = N := ⟨_, rfl⟩
  rw [hNe] at kri krk h0h
  have hN := Lib.hid hNe
  rw [hNe]
  clear hNe
  have hin : ∀ x : World, Below W.heap.size W x → (blk x w.heap.size = some (.cells #[.int .i64 (R : Nat), .int .i64 (C : Nat), .slice (some ⟨g, 0, none⟩) N cap] 188 (0, 0)) ∧ Below W.heap.size W x) := fun x hb =>
    ⟨by rw [blk_below hb hsz]; exact blk_of h0h.out, hb⟩
  have hclh := Lib.hid (fun (x x' : World) (h : blk x w.heap.size = some (.cells #[.int .i64 (R : Nat), .int .i64 (C : Nat), .slice (some ⟨g, 0, none⟩) N cap] 188 (0, 0)) ∧ Below W.heap.size W x) (hb : Below x.heap.size x x') => hin x' (below_step h.2 h.2.size hb))
  have hst := Lib.hid (hin W.drew (below_drewN (Below.refl _ _) 1))
  clear hin
  go_upto_region 2 with (fail)
  refine wp_region_quiet (C := fun x => blk x w.heap.size = some (.cells #[.int .i64 (R : Nat), .int .i64 (C : Nat), .slice (some ⟨g, 0, none⟩) N cap] 188 (0, 0)) ∧ Below W.heap.size W x) (by kernel_rfl) (by kernel_rfl) hst.out ?_
  repeat (first
    | (refine q_run (v := ?_) ?_ ?_ ?_
       rotate_left
       · rfl
       · (intro x hSx; (try dsimp only at hSx); go_simp <;> with_reducible rfl)
       simp only [Act.put, List.setIfInBounds_toArray, List.set_cons_zero, List.set_cons_succ])
    | (refine q_skip ?_ ?_
       · rfl
       simp only [Act.put, List.setIfInBounds_toArray, List.set_cons_zero, List.set_cons_succ])
    | (refine q_call (fun x _ => kri.out x) hclh.out ?_ ?_ ?_
       · rfl
       · (intro x hSx; (try dsimp only at hSx); go_simp <;> with_reducible rfl)
       simp only [Act.put, List.setIfInBounds_toArray, List.set_cons_zero, List.set_cons_succ])
    | (refine q_call (fun x _ => krk.out x) hclh.out ?_ ?_ ?_
       · rfl
       · (intro x hSx; (try dsimp only at hSx); go_simp <;> with_reducible rfl)
       simp only [Act.put, List.setIfInBounds_toArray, List.set_cons_zero, List.set_cons_succ]))
  refine wpQuiet_nil ?_
  intro x hSx
  have hBx := Lib.hid hSx.2
  clear hSx hclh hst
  go_upto_region 4 with (fail)
  have hmx : Hid (MRow x g R C (swK F i k 0)) := hide ((hmW.out.below hBx.out (by omega)).congr (fun r c _ _ => (swK_zero F i k r c).symm))
  go_loopw [20] (fun iv wr => ∃ j : Nat, j ≤ C ∧ iv = .int .i64 (j : Nat) ∧ Hid (MRow wr g R C (swK F i k j)) ∧ Hid (x.grownBy wr (some g))) (fun iv _ => C - (intOf iv).toNat)
  case atStart => exact ⟨0, Nat.zero_le _, rfl, hmx, hide (only_refl _ _)⟩
  case round =>
    obtain ⟨j, hj, rfl, hM, hG⟩ := hrel
    clear hmx
    by_cases hjC : j < C
    · have i1 : (j : Int) < (C : Int) := by omega
      have hC0 : C ≠ 0 := by omega
      have a1 := hA.out i hC0
      have a2 := hA.out k hC0
      rw [hA1h.out] at a1
      rw [hA2h.out] at a2
      have c1 := hM.out.cell i j hi hjC
      have c2 := hM.out.cell k j hk hjC
      rw [swK_at] at c1 c2
      have f1 := hM.out.fr (i * C + j)
      have f2 := hM.out.fr (k * C + j)
      have hne : ¬ k * C + j = i * C + j := fun e => hik (idx_inj hjC hjC e).1.symm
      have hne2 : ¬ i * C + j = k * C + j := fun e => hne e.symm
      have hset := Lib.hid (((hM.out.set i j (F k j) hjC).set k j (F i j) hjC).congr (fun r c _ _ => hsw.out hik j r c))
      have hG2 := Lib.hid (fun u v => only_set (only_set hG.out (i * C + j) u) (k * C + j) v)
      generalize F i j = xi at *
      generalize F k j = xk at *
      generalize i * C = p at *
      generalize k * C = q at *
      clear hC0
      subst a1 a2
      go_wp2_with fail
      go_region
      go_wp2_with fail
      go_roundw
      case rel => exact ⟨j + 1, by omega, by go_num, hide (hset.out.drewN 1), hide (only_drew (hG2.out _ _))⟩
      case measure => simp [intOf]; omega
    · obtain rfl : j = C := by omega
      have i1 : decide ((j : Int) < (j : Int)) = false := by simp
      have hMf := Lib.hid (hM.out.congr (fun r c _ hc => swK_end F i k j r c hc))
      go_wp2_with fail
      go_end0
      exact ⟨rfl, hMf.out, only_trans (only_of_below (hBh.out.trans (hBx.out.mono hWl)) _) hG.out⟩
end Go.Proofs.Ytmfagdbocidfjaa

/- Rows of matrices of one's own: row, scaled, mixed, copied; two calls of a drawn region that may come in either order. -/
namespace Go.Proofs.Ytmfagdbocidfjaa
open Go.RowKit
set_option maxRecDepth 100000 in
theorem rowA_own (g C i : Nat) : rowA (some ⟨g, 0, none⟩) C i = some ⟨g, i * C, none⟩ := by
  by_cases h : C = 0
  · subst h; rw [rowA_zero, Nat.mul_zero]
  · rw [rowA_pos g 0 C i h, Nat.zero_add]
set_option maxRecDepth 100000 in
theorem m_row_own (R C i g cap : Nat) (w : World) (hi : i < R) (hR : R ≤ 255) (hC : C ≤ 255) (hc : R * C ≤ cap) :
    Calls Try.prog 118 #[.agg #[.int .i64 (R : Nat), .int .i64 (C : Nat), .slice (some ⟨g, 0, none⟩) (R * C) cap], .int .i64 (i : Nat)] w (Ret w (.slice (some ⟨g, i * C, none⟩) C C)) := by
  have h := m_row R C i (some ⟨g, 0, none⟩) cap w (.inr ⟨g, 0, rfl⟩) hi hR hC hc
  rw [rowA_own] at h
  exact h
/-- a row is another one -/
def roF (F : Nat → Nat → Nat) (i : Nat) (v : Nat → Nat) (r c : Nat) : Nat := if r = i then v c else F r c
/-- a row is added, by an element, to another one -/
def mxF (F : Nat → Nat → Nat) (k d i r c : Nat) : Nat := if r = k then F r c ^^^ rmul d (F i c) else F r c
def Bd2 (F : Nat → Nat → Nat) : Prop := ∀ r c, F r c < 256
set_option maxRecDepth 100000 in
theorem fl_bd (C : Nat) (F : Nat → Nat → Nat) (h : Bd2 F) (j : Nat) : flF C F j < 256 := h _ _
set_option maxRecDepth 100000 in
theorem ro_bd {F : Nat → Nat → Nat} {i : Nat} {v : Nat → Nat} (h : Bd2 F) (hv : ∀ c, v c < 256) : Bd2 (roF F i v) := fun r c => by unfold roF; split; exact hv c; exact h r c
set_option maxRecDepth 100000 in
theorem xor_lt256 {a b : Nat} (ha : a < 256) (hb : b < 256) : a ^^^ b < 256 := Nat.xor_lt_two_pow (n := 8) ha hb
set_option maxRecDepth 100000 in
theorem mx_bd {F : Nat → Nat → Nat} {k d i : Nat} (h : Bd2 F) : Bd2 (mxF F k d i) := fun r c => by unfold mxF; split; exact xor_lt256 (h r c) (rmul_lt _ _); exact h r c
set_option maxRecDepth 100000 in
theorem MRow.part {w : World} {g R C : Nat} {F : Nat → Nat → Nat} (h : MRow w g R C F) (i : Nat) (hi : i < R) : By w (some ⟨g, i * C, none⟩) C (F i) := fun k hk => ⟨g, i * C, rfl, h.cell i k hi hk⟩
set_option maxRecDepth 100000 in
theorem m_mixrow (p g R C k i d : Nat) (F : Nat → Nat → Nat) (w : World) (hg : IsGf w p) (hne : p ≠ g) (hm : MRow w g R C F) (hb : Bd2 F) (hk : k < R) (hi : i < R) (hki : k ≠ i) (hd : d < 256) (hR : R ≤ 255) (hC : C ≤ 255) :
    Calls Try.prog 124 #[.pointer (some ⟨p, 0, none⟩), .slice (some ⟨g, k * C, none⟩) C C, .int .u8 (d : Nat), .slice (some ⟨g, i * C, none⟩) C C] w (RowsPost w g R C (mxF F k d i)) := by
  have h2 := rc_le hR hC
  have h := gf_mixo p g (R * C) (k * C) C C d (some ⟨g, i * C, none⟩) C C (flF C F) (F i) w hg hne hm (idx_row hk) (fl_bd C F hb) (hb i) (fun j hj _ => ⟨g, i * C, rfl, hm.cell i j hi hj, fun _ => ⟨by
    rcases Nat.lt_or_gt_of_ne hki with h3 | h3
    · have := idx_row (C := C) h3; omega
    · have := idx_row (C := C) h3; omega, idx_lt hi hj⟩⟩) hd (by omega) (by omega)
  refine h.mono fun e w' hh => ⟨hh.1, MRow.of hh.2.1 (fun r c hr hc => ?_), hh.2.2⟩
  rw [Nat.min_self]
  unfold mixF mxF
  rw [fl_at C F r c hc]
  by_cases e : r = k
  · subst e
    rw [if_pos (by omega), if_pos rfl, Nat.add_sub_cancel_left]
  · rw [if_neg e, if_neg]
    intro h3
    rcases Nat.lt_or_gt_of_ne e with h4 | h4
    · have := idx_row (C := C) h4; omega
    · have := idx_row (C := C) h4; omega
/-- a new row comes back -/
def RowPost (W : World) (m : Nat) (f : Nat → Nat) (e : Ending) (W' : World) : Prop := ∃ g cap, e = .returned (.slice (some ⟨g, 0, none⟩) m cap) ∧ W.heap.size ≤ g ∧ BRow W' g m f ∧ Below W.heap.size W W'
set_option maxRecDepth 100000 in
theorem m_scale (p a : Nat) (s : Option Addr) (n cap : Nat) (f : Nat → Nat) (w : World) (hg : IsGf w p) (ha : a < 256) (hs : By w s n f) (hf : ∀ i, f i < 256) (hn : n ≤ 2000) :
    Calls Try.prog 129 #[.pointer (some ⟨p, 0, none⟩), .int .u8 a, .slice s n cap] w (RowPost w n (fun j => rmul a (f j))) := by
  have h := gf_scale p a s cap ((List.range n).map f) w hg ha hs.sl (fun x hx => by obtain ⟨i, _, rfl⟩ := List.mem_map.1 hx; exact hf i) (by simp; exact hn)
  have e : ((List.range n).map f).length = n := by simp
  rw [e] at h
  refine h.mono fun e' w' hh => ?_
  obtain ⟨g, he, ho, hb⟩ := hh
  have e2 : (((List.range n).map f).map (rmul a)).length = n := by simp
  rw [e2] at he ho
  obtain ⟨q1, q2, q3⟩ := own_cap ho
  refine ⟨g, n, he, q3, FRow.own ho fun i hi => ?_, hb⟩
  rw [rowB_get]
  simp [hi]
set_option maxRecDepth 100000 in
/-- copy, into a row -/
theorem run_copy_mrow (w : World) (g R C i dc sc : Nat) (F : Nat → Nat → Nat) (s : Option Addr) (v : Nat → Nat) (ty : TypeId) (hm : MRow w g R C F) (hi : i < R) (hs : By w s C v) :
    ∃ w', (Builtin.copy_ #[71, 71] ty #[.slice (some ⟨g, i * C, none⟩) C dc, .slice s C sc]).run Try.prog w = .ok (goInt C) w' ∧ MRow w' g R C (roF F i v) ∧ w.grownBy w' (some g) := by
  have hs8 : (Try.prog.info? 5).map (·.size) = some 1 := by
    obtain ⟨i0, h1, _, h2, _⟩ := info_parts info8
    rw [h1]; simp [h2]
  rcases Nat.eq_zero_or_pos C with h0 | h0
  · subst h0
    refine ⟨w, run_copy_none (P := Try.prog) w 71 71 ty 5 _ _ 0 dc 0 sc Try.underlying71 hs8 rfl, hm.congr (fun r c _ hc => absurd hc (by omega)), only_refl _ _⟩
  · obtain ⟨b, off, rfl, _⟩ := hs 0 h0
    have hm0 := hm
    obtain ⟨D, hD, hsz, hcell⟩ := hm
    have hlen : (rowB ((List.range C).map v)).length = C := by rw [rowB_length]; simp
    have hrow := idx_row (C := C) hi
    have hrun := run_copy_row (P := Try.prog) w 71 71 ty 5 g (i * C) C dc ⟨b, off, none⟩ C sc D 5 (rowB ((List.range C).map v)) Try.underlying71 hs8 hD (by rw [hlen]; exact (Nat.min_self C).symm) (by
      intro j u hj
      rw [rowB_get] at hj
      obtain ⟨y, hy, hyu⟩ := Option.map_eq_some_iff.1 hj
      obtain ⟨b2, off2, he, hc⟩ := hs.sl j y hy
      injection he with he
      injection he with he1 he2
      subst he1 he2 hyu
      rw [add_none]; exact hc) (by rw [hlen]; omega) (by
      intro u hu
      unfold rowB at hu
      obtain ⟨y, _, rfl⟩ := List.mem_map.1 hu
      rfl)
    rw [hlen] at hrun
    refine ⟨_, hrun, MRow.of (f := fun j => if i * C ≤ j ∧ j < i * C + C then v (j - i * C) else flF C F j) ⟨_, setRow_heap _ _ _ _ _ _ hD, ?_, fun j hj => ?_⟩ (fun r c hr hc => ?_), ?_⟩
    · simp only [List.size_toArray, List.length_append, List.length_take, List.length_drop, Array.length_toList, hlen]; omega
    · have hj2 := hcell j hj
      rw [← Array.getElem?_toList] at hj2 ⊢
      simp only []
      by_cases h1 : j < i * C
      · rw [List.getElem?_append_left (by simp only [List.length_append, List.length_take, Array.length_toList, hlen]; omega), List.getElem?_append_left (by simp only [List.length_take, Array.length_toList]; omega), List.getElem?_take, if_pos h1, if_neg (by omega)]
        exact hj2
      · by_cases h2 : j < i * C + C
        · rw [List.getElem?_append_left (by simp only [List.length_append, List.length_take, Array.length_toList, hlen]; omega), List.getElem?_append_right (by simp only [List.length_take, Array.length_toList]; omega), rowB_get, if_pos (by omega)]
          have e : j - (List.take (i * C) D.toList).length = j - i * C := by simp only [List.length_take, Array.length_toList]; omega
          rw [e, List.getElem?_map, List.getElem?_range (by omega)]
          rfl
        · rw [List.getElem?_append_right (by simp only [List.length_append, List.length_take, Array.length_toList, hlen]; omega), List.getElem?_drop, if_neg (by omega)]
          have e : i * C + C + (j - (List.take (i * C) D.toList ++ rowB ((List.range C).map v)).length) = j := by simp only [List.length_append, List.length_take, Array.length_toList, hlen]; omega
          rw [e]
          exact hj2
    · rw [fl_at C F r c hc]
      unfold roF
      by_cases e : r = i
      · subst e
        rw [if_pos (by omega), if_pos rfl, Nat.add_sub_cancel_left]
      · rw [if_neg e, if_neg]
        intro h3
        rcases Nat.lt_or_gt_of_ne e with h4 | h4
        · have := idx_row (C := C) h4; omega
        · have := idx_row (C := C) h4; omega
    · exact only_setRow (only_refl _ _) (.inl rfl) _
set_option maxRecDepth 100000 in
theorem exec_appendM {P : Program} {o : Oper} {a : Act} {w w' : World} {v x r : Value} (s y : Operand) (t u : TypeId) (ho : o.op = .call { callee := .builtin .append, args := #[s, y], argTypes := #[t, u] })
    (hs : a.eval s = v) (hx : a.eval y = x) (hr : (Builtin.append_ #[t, u] o.type #[v, x]).run P w = .ok r w') : (execOp a.eval o).run P w = .ok (.value r) w' := by
  unfold execOp
  simp only [ho, resolve, invoke, builtin, Sem.run_bind, Sem.run_pure, Result.andThen_ok, List.map_toArray, List.map_cons, List.map_nil, hs, hx, hr]
set_option maxRecDepth 100000 in
theorem exec_copy {P : Program} {o : Oper} {a : Act} {w w' : World} {v x r : Value} (s y : Operand) (t u : TypeId) (ho : o.op = .call { callee := .builtin .copy, args := #[s, y], argTypes := #[t, u] })
    (hs : a.eval s = v) (hx : a.eval y = x) (hr : (Builtin.copy_ #[t, u] o.type #[v, x]).run P w = .ok r w') : (execOp a.eval o).run P w = .ok (.value r) w' := by
  unfold execOp
  simp only [ho, resolve, invoke, builtin, Sem.run_bind, Sem.run_pure, Result.andThen_ok, List.map_toArray, List.map_cons, List.map_nil, hs, hx, hr]
section
variable {P : Program} {ops : Array Oper} {Q : Exit → Act → World → Prop} {S : World → Prop}
set_option maxRecDepth 100000 in
/-- either of two may come next: one that is carried out, or a call -/
theorem h_pairM {i j : Nat} {oi oj : Oper} {f : FuncId} {args : Array Value} {R : Ending → World → Prop} {v : Value} {fuel : Nat} {listed : Array Bool} {a : Act} {w w1 : World}
    (hc : Calls P f args w R) (hi0 : opAt ops.toList i = some oi) (hj0 : opAt ops.toList j = some oj) (hr : Region.ready .any ops listed = [i, j])
    (wi : Region.wanted oi (yielded ops a.tmps) = true) (wj : Region.wanted oj (yielded ops a.tmps) = true)
    (hv : (execOp a.eval oi).run P w = .ok (.value v) w1) (he : (execOp a.eval oj).run P w = .ok (.enter f args) w) (hS : S w1)
    (h1 : wpAnyH P .any ops (NoPanic Q) S fuel (listed.setIfInBounds i true) (a.put oi.dst v) w1)
    (h2 : ∀ e w', R e w' → ∃ u, e = .returned u ∧ S w' ∧ wpAnyH P .any ops (NoPanic Q) S fuel (listed.setIfInBounds j true) (a.put oj.dst u) w') :
    wpAnyH P .any ops (NoPanic Q) S (fuel + 1) listed a w := by
  refine wpAnyH_all hr (by simp) (fun k hk => ?_)
  have hk2 : k = i ∨ k = j := by simpa using hk
  rcases hk2 with rfl | rfl
  · refine wpOp_step (opAt_of hi0) (fun K' hK => ?_)
    rw [if_pos wi]
    unfold Oper.wp
    rw [hv]
    exact hK _ _ ⟨hS, h1⟩
  · refine wpOp_step (opAt_of hj0) (fun K' hK => ?_)
    rw [if_pos wj]
    unfold Oper.wp
    rw [he]
    exact hc.mono fun e w' hR => by
      obtain ⟨u, rfl, hS', hx⟩ := h2 e w' hR
      exact hK _ _ ⟨hS', hx⟩
set_option maxRecDepth 100000 in
/-- either of two that are carried out may come next -/
theorem h_pairV {i j : Nat} {oi oj : Oper} {v u : Value} {fuel : Nat} {listed : Array Bool} {a : Act} {w w1 w2 : World}
    (hi0 : opAt ops.toList i = some oi) (hj0 : opAt ops.toList j = some oj) (hr : Region.ready .any ops listed = [i, j])
    (wi : Region.wanted oi (yielded ops a.tmps) = true) (wj : Region.wanted oj (yielded ops a.tmps) = true)
    (hv : (execOp a.eval oi).run P w = .ok (.value v) w1) (hu : (execOp a.eval oj).run P w = .ok (.value u) w2) (hS1 : S w1) (hS2 : S w2)
    (h1 : wpAnyH P .any ops (NoPanic Q) S fuel (listed.setIfInBounds i true) (a.put oi.dst v) w1)
    (h2 : wpAnyH P .any ops (NoPanic Q) S fuel (listed.setIfInBounds j true) (a.put oj.dst u) w2) :
    wpAnyH P .any ops (NoPanic Q) S (fuel + 1) listed a w := by
  refine wpAnyH_all hr (by simp) (fun k hk => ?_)
  have hk2 : k = i ∨ k = j := by simpa using hk
  rcases hk2 with rfl | rfl
  · refine wpOp_step (opAt_of hi0) (fun K' hK => ?_)
    rw [if_pos wi]
    unfold Oper.wp
    rw [hv]
    exact hK _ _ ⟨hS1, h1⟩
  · refine wpOp_step (opAt_of hj0) (fun K' hK => ?_)
    rw [if_pos wj]
    unfold Oper.wp
    rw [hu]
    exact hK _ _ ⟨hS2, h2⟩
set_option maxRecDepth 100000 in
/-- two calls that may come in either order -/
theorem h_two {i j : Nat} {oi oj : Oper} {fi fj : FuncId} {ai aj : Array Value} {vi vj : Value} {fuel : Nat} {listed : Array Bool} {a : Act} {w : World} (T : World → Prop) (hS : T w) (hcl : ∀ x x', T x → Below x.heap.size x x' → T x') (hTS : ∀ x, T x → S x)
    (ci : ∀ x, T x → Calls P fi ai x (Ret x vi)) (cj : ∀ x, T x → Calls P fj aj x (Ret x vj))
    (hi0 : opAt ops.toList i = some oi) (hj0 : opAt ops.toList j = some oj) (hr : Region.ready .any ops listed = [i, j]) (hri : Region.ready .any ops (listed.setIfInBounds i true) = [j]) (hrj : Region.ready .any ops (listed.setIfInBounds j true) = [i])
    (wi : Region.wanted oi (yielded ops a.tmps) = true) (wj : Region.wanted oj (yielded ops a.tmps) = true) (wi' : Region.wanted oi (yielded ops (a.put oj.dst vj).tmps) = true) (wj' : Region.wanted oj (yielded ops (a.put oi.dst vi).tmps) = true)
    (ei : ∀ x, (execOp a.eval oi).run P x = .ok (.enter fi ai) x) (ej : ∀ x, (execOp a.eval oj).run P x = .ok (.enter fj aj) x)
    (ei' : ∀ x, (execOp (a.put oj.dst vj).eval oi).run P x = .ok (.enter fi ai) x) (ej' : ∀ x, (execOp (a.put oi.dst vi).eval oj).run P x = .ok (.enter fj aj) x)
    (hl : (listed.setIfInBounds j true).setIfInBounds i true = (listed.setIfInBounds i true).setIfInBounds j true) (ha : (a.put oj.dst vj).put oi.dst vi = (a.put oi.dst vi).put oj.dst vj)
    (h : ∀ x, T x → wpAnyH P .any ops (NoPanic Q) S fuel ((listed.setIfInBounds i true).setIfInBounds j true) ((a.put oi.dst vi).put oj.dst vj) x) :
    wpAnyH P .any ops (NoPanic Q) S (fuel + 1 + 1) listed a w := by
  refine wpAnyH_all hr (by simp) (fun k hk => ?_)
  have hk2 : k = i ∨ k = j := by simpa using hk
  rcases hk2 with rfl | rfl
  · refine wpOp_step (opAt_of hi0) (fun K' hK => ?_)
    rw [if_pos wi]
    unfold Oper.wp
    rw [ei w]
    exact (ci w hS).mono fun e w' ⟨he, hb⟩ => by
      subst he
      have hS' := hcl w w' hS hb
      exact hK _ _ ⟨hTS w' hS', h_call (i := j) S (fun _ h => h) (cj w' hS') hj0 hri wj' (ej' w') (fun e w2 ⟨he, hb2⟩ => ⟨vj, he, hTS w2 (hcl w' w2 hS' hb2), h w2 (hcl w' w2 hS' hb2)⟩)⟩
  · refine wpOp_step (opAt_of hj0) (fun K' hK => ?_)
    rw [if_pos wj]
    unfold Oper.wp
    rw [ej w]
    exact (cj w hS).mono fun e w' ⟨he, hb⟩ => by
      subst he
      have hS' := hcl w w' hS hb
      exact hK _ _ ⟨hTS w' hS', h_call (i := i) S (fun _ h => h) (ci w' hS') hi0 hrj wi' (ei' w') (fun e w2 ⟨he, hb2⟩ => ⟨vi, he, hTS w2 (hcl w' w2 hS' hb2), by rw [hl, ha]; exact h w2 (hcl w' w2 hS' hb2)⟩)⟩
end
end Go.Proofs.Ytmfagdbocidfjaa

/- The walk of the law MatrixInverts: it answers true for every matrix. -/
import Derived.Test.YtkcalgolanpjaaaMat15
namespace Go.Proofs.Ytkcalgolanpjaaa
open Go.RowKit
theorem inv_plain (F : Nat → Nat → Nat) (hF : Bd2 F) (n : Nat) : ((∀ j, j < n → pvF (ivS F n j).1 j n j < n) ∧ (rfS F n n).1 = n) ∨ ((∃ i, i < n ∧ ¬ pvF (ivS F n i).1 i n i < n ∧ ∀ j, j < i → pvF (ivS F n j).1 j n j < n) ∧ (rfS F n n).1 < n) := by
  rw [← (rank_same F hF n n).1]
  rcases first_no (fun j => pvF (ivS F n j).1 j n j < n) n with h | h
  · exact .inl ⟨h, rank_full F n h⟩
  · obtain ⟨i, h1, h2, h3⟩ := h
    exact .inr ⟨⟨i, h1, h2, h3⟩, rank_less F n i h1 h3 h2⟩
theorem MAt.eqv {w : World} {a : Option Addr} {R C : Nat} {F G : Nat → Nat → Nat} (h : MAt w a R C F) (e : ∀ i k, i < R → k < C → F i k = G i k) : MAt w a R C G := fun i k hi hk => by rw [← e i k hi hk]; exact h i k hi hk
attribute [local irreducible] gexp gtbl glog rmul rinv rpow zexp mixF blk wLoad wLoadRes loadAns wStore wStoreRes storeAns Plain flF BRow MRow IsGf MAt By gjS rfS mlF ivS pvF
attribute [local go_sem ↓] ld_m0 ld_x0 sto_m0 sto_x0
attribute [local go_sem] ld_m ld_x sto_m sto_x loadAns_some storeAns_some mx_size mx_plain blk_alloc_if blk_setRow_if blk_drew_at blk_drewN_at rowPut_some blk_setCell_if cellPut_some
set_option maxRecDepth 100000 in
set_option maxHeartbeats 8000000 in
theorem matrixInverts_walk (v0 : Value) (w : World) (w0 : IsMx w v0) :
    Calls Try.prog 3 #[v0] w fun e w' => e = .returned (.bool true) ∧ Below w.heap.size w w' := by
  obtain ⟨r, c, a, len, cap, zs, rfl, _, _, hrow⟩ := w0
  have hz := zeroM
  have hzx := zeroX
  have hB := below_one w (.cells #[.int .i64 r, .int .i64 c, .slice a len cap] 24)
  have h0 := last_block0 w (.cells #[.int .i64 r, .int .i64 c, .slice a len cap] 24) _ rfl
  have hsz : w.heap.size < (w.alloc (.cells #[.int .i64 r, .int .i64 c, .slice a len cap] 24)).heap.size := by show _ < (w.heap.push _).size; rw [Array.size_push]; omega
  have hrx := Lib.hid (fun h => mx_right (r := r) (c := c) hrow h)
  clear hrow
  go_enter Try.func3, Try.ntmps3
  go_upto_region 1 with (fail)
  generalize World.alloc w _ = W at *
  have h0h := Lib.hid (blk_of h0)
  have hBh := Lib.hid hB
  clear h0 hB
  have hS : Hid (∀ y, Below W.heap.size W y → blk y w.heap.size = some (.cells #[.int .i64 r, .int .i64 c, .slice a len cap] 24 (0, 0))) := hide (fun y hy => (blk_below hy hsz).trans h0h.out)
  go_wp2_with fail
  refine (m_awake W).mono ?_
  rintro e w1 ⟨rfl, hb1⟩
  have hb1h := Lib.hid hb1
  have b1 := hS.out w1 hb1
  clear hb1
  go_wp2_with fail
  refine (l_small r c a len cap w1).mono ?_
  rintro e w2 ⟨sm, rfl, hb2, _⟩
  have hb2h := Lib.hid (below_step hb1h.out hb1h.out.size hb2)
  have hfin2 := Lib.hid (hBh.out.trans (hb2h.out.mono hBh.out.size))
  clear hb2 b1
  cases sm with
  | false =>
    go_wp2_with fail
    go_ret
    exact ⟨rfl, hfin2.out⟩
  | true =>
  go_wp2_with fail
  refine (gf_new_below w2).mono ?_
  rintro e w3 ⟨rfl, hgf, hb3⟩
  have hb3h := Lib.hid (below_step hb2h.out hb2h.out.size hb3)
  have hgfh := Lib.hid hgf
  have b3 := hS.out w3 hb3h.out
  clear hb3 hgf
  generalize w2.heap.size = p at *
  obtain ⟨ba, hba⟩ : ∃ ba, rightB r c len = ba := ⟨_, rfl⟩
  by_cases hgo : ba = true ∧ r = c
  · obtain ⟨rfl, hrc⟩ := hgo
    obtain ⟨n, C, F, hx⟩ := hrx.out hba
    obtain ⟨rfl, rfl, rfl, hn, hC, hm, hbd, hnil, hcap⟩ := hx
    obtain rfl : n = C := by omega
    have hmh := Lib.hid hm
    have kiv := Lib.hid (m_invert p n a cap F w3 hgfh.out (hm.below (hBh.out.trans (hb3h.out.mono hBh.out.size))) hnil hbd hn)
    have krk := Lib.hid (fun y (hy : Below W.heap.size W y) => x_rank n n a cap F y (hmh.out.below (hBh.out.trans (hy.mono hBh.out.size))) hbd hn hn)
    have krt := Lib.hid (fun s k y => right_nat n n hn hn ▸ x_right n n s (n * n) k y)
    have t1 := beq_cast_t n
    have t2 := bne_cast_f n
    have hivb := Lib.hid (iv_bd F hbd n n).2
    have hinv := Lib.hid (fun hp => iv_inverse F hbd n hp)
    have hpl := Lib.hid (inv_plain F hbd n)
    clear hm hnil hcap hrc
    generalize (rfS F n n).1 = k at *
    generalize (ivS F n n).2 = E at *
    rcases hpl.out with ⟨hp, hrk⟩ | ⟨hp, hrk⟩
    · have kv := Lib.hid (kiv.out.mono (fun e w' h => h.1 hp))
      have hinv2 := Lib.hid (hinv.out hp)
      clear hinv kiv hpl hp
      obtain rfl : n = k := hrk.symm
      go_wp2_with fail
      refine kv.out.mono ?_
      rintro e w4 ⟨g, rfl, hgl, hmE, hb4⟩
      have hmEh := Lib.hid hmE.mat
      have hgl4 := hmE.lt
      have w4h := Lib.hid (below_step hb3h.out hb3h.out.size hb4)
      clear hb4 b3 hmE kv
      go_upto_region 7 with (fail)
      obtain ⟨x0, x1, x2⟩ := boxed w4 #[.int .i64 0, .int .i64 0, .slice none 0 0] #[.int .i64 (n : Nat), .int .i64 (n : Nat), .slice (some ⟨g, 0, none⟩) (n * n) (n * n)] 24
      generalize World.setRow (World.alloc w4 _) _ _ = X at *
      have hXW : Hid (Below W.heap.size W X) := hide (w4h.out.trans (x2.mono w4h.out.size))
      have hvx := Lib.hid (blk_of x0)
      have hvl : w4.heap.size < X.heap.size := by omega
      obtain ⟨q, hq⟩ : ∃ q, w4.heap.size = q := ⟨_, rfl⟩
      rw [hq] at hvx hvl ⊢
      have hfin : Hid (∀ y, Below X.heap.size X y → Below w.heap.size w y) := hide (fun y hy => hBh.out.trans ((hXW.out.trans (hy.mono hXW.out.size)).mono hBh.out.size))
      have hWX : Hid (∀ y, Below X.heap.size X y → Below W.heap.size W y) := hide (fun y hy => hXW.out.trans (hy.mono hXW.out.size))
      have hSM : Hid (∀ y, Below X.heap.size X y → blk y w.heap.size = some (.cells #[.int .i64 (n : Nat), .int .i64 (n : Nat), .slice a (n * n) cap] 24 (0, 0))) := hide (fun y hy => hS.out y (hWX.out y hy))
      have hSV : Hid (∀ y, Below X.heap.size X y → blk y q = some (.cells #[.int .i64 (n : Nat), .int .i64 (n : Nat), .slice (some ⟨g, 0, none⟩) (n * n) (n * n)] 24 (0, 0))) := hide (fun y hy => (blk_below hy hvl).trans hvx.out)
      have hX0 : Hid (Below X.heap.size X X) := hide (Below.refl _ _)
      have hmV : Hid (∀ y, Below X.heap.size X y → MAt y (some ⟨g, 0, none⟩) n n E) := hide (fun y hy => (hmEh.out.below x2).below hy)
      have hmM : Hid (∀ y, Below X.heap.size X y → MAt y a n n F) := hide (fun y hy => hmh.out.below (hfin.out y hy))
      clear x0 x1 x2 hq
      have bm := hSM.out X hX0.out
      go_wp2_with fail
      refine (l_ref n n a (n * n) cap X).mono ?_
      rintro e y1 ⟨rfl, hy⟩
      have hy1 := Lib.hid (below_step hX0.out hX0.out.size hy)
      clear hy
      clear bm
      go_wp2_with fail
      refine (krt.out a cap y1).mono ?_
      rintro e y2 ⟨rfl, hy⟩
      have hy2 := Lib.hid (below_step hy1.out hy1.out.size hy)
      clear hy
      have bm := hSM.out y2 hy2.out
      have c0 : y2.cell? ⟨w.heap.size, 0, none⟩ = some (.int .i64 (n : Nat)) := (cell_of_block (blk_heap bm)).trans rfl
      have c1 : y2.cell? ⟨w.heap.size, 1, none⟩ = some (.int .i64 (n : Nat)) := (cell_of_block (blk_heap bm)).trans rfl
      go_upto_region 9 with (fail)
      clear bm c0 c1
      have hSN : Hid (∀ y, Below X.heap.size X y → blk y w.heap.size = some (.cells #[.int .i64 (n : Nat), .int .i64 (n : Nat), .slice a (n * n) cap] 24 (0, 0)) ∧ y.cell? ⟨w.heap.size, 0, none⟩ = some (.int .i64 (n : Nat))) := hide (fun y hy => ⟨hSM.out y hy, (cell_of_block (blk_heap (hSM.out y hy))).trans rfl⟩)
      have hBd := Lib.hid (below_drewN hy2.out 1)
      refine h_begin 6 (fun y : World => blk y w.heap.size = some (.cells #[.int .i64 (n : Nat), .int .i64 (n : Nat), .slice a (n * n) cap] 24 (0, 0)) ∧ y.cell? ⟨w.heap.size, 0, none⟩ = some (.int .i64 (n : Nat))) rfl (by kernel_rfl) (hSN.out _ hBd.out) ?_
      have hHeld : (fun y : World => blk y w.heap.size = some (.cells #[.int .i64 (n : Nat), .int .i64 (n : Nat), .slice a (n * n) cap] 24 (0, 0)) ∧ y.cell? ⟨w.heap.size, 0, none⟩ = some (.int .i64 (n : Nat))) y2.drew := hSN.out _ hBd.out
      first
        | (refine h_run (i := 0) (v := ?_) hHeld rfl (by kernel_rfl) (by kernel_rfl) (by kernel_rfl) ?_ ?_ ?_
           rotate_left
           · rfl
           · (intro x hSx; (try dsimp only at hSx); go_simp <;> with_reducible rfl)
           simp only [Act.put, List.setIfInBounds_toArray, List.set_cons_zero, List.set_cons_succ])
        | (refine h_skip (i := 0) hHeld rfl (by kernel_rfl) (by kernel_rfl) (by kernel_rfl) ?_ ?_
           · rfl
           simp only [Act.put, List.setIfInBounds_toArray, List.set_cons_zero, List.set_cons_succ])
      first
        | (refine h_run (i := 3) (v := ?_) hHeld rfl (by kernel_rfl) (by kernel_rfl) (by kernel_rfl) ?_ ?_ ?_
           rotate_left
           · rfl
           · (intro x hSx; (try dsimp only at hSx); go_simp <;> with_reducible rfl)
           simp only [Act.put, List.setIfInBounds_toArray, List.set_cons_zero, List.set_cons_succ])
        | (refine h_skip (i := 3) hHeld rfl (by kernel_rfl) (by kernel_rfl) (by kernel_rfl) ?_ ?_
           · rfl
           simp only [Act.put, List.setIfInBounds_toArray, List.set_cons_zero, List.set_cons_succ])
      first
        | (refine h_run (i := 4) (v := ?_) hHeld rfl (by kernel_rfl) (by kernel_rfl) (by kernel_rfl) ?_ ?_ ?_
           rotate_left
           · rfl
           · (intro x hSx; (try dsimp only at hSx); go_simp <;> with_reducible rfl)
           simp only [Act.put, List.setIfInBounds_toArray, List.set_cons_zero, List.set_cons_succ])
        | (refine h_skip (i := 4) hHeld rfl (by kernel_rfl) (by kernel_rfl) (by kernel_rfl) ?_ ?_
           · rfl
           simp only [Act.put, List.setIfInBounds_toArray, List.set_cons_zero, List.set_cons_succ])
      clear hHeld
      refine h_call (i := 1) (fun y : World => blk y w.heap.size = some (.cells #[.int .i64 (n : Nat), .int .i64 (n : Nat), .slice a (n * n) cap] 24 (0, 0)) ∧ y.cell? ⟨w.heap.size, 0, none⟩ = some (.int .i64 (n : Nat))) (fun _ h => h) (l_ref n n a (n * n) cap y2.drew) rfl (by kernel_rfl) rfl ?_ ?_
      · go_simp <;> with_reducible rfl
      rintro e y3 ⟨rfl, hy⟩
      have hy3 := Lib.hid (below_step hBd.out hBd.out.size hy)
      refine ⟨_, rfl, hSN.out _ hy3.out, ?_⟩
      clear hy
      refine h_call (i := 2) (fun y : World => blk y w.heap.size = some (.cells #[.int .i64 (n : Nat), .int .i64 (n : Nat), .slice a (n * n) cap] 24 (0, 0)) ∧ y.cell? ⟨w.heap.size, 0, none⟩ = some (.int .i64 (n : Nat))) (fun _ h => h) (krk.out y3 (hWX.out y3 hy3.out)) rfl (by kernel_rfl) rfl ?_ ?_
      · go_simp <;> with_reducible rfl
      rintro e y4 ⟨rfl, hy⟩
      have hy4 := Lib.hid (below_step hy3.out hy3.out.size hy)
      refine ⟨_, rfl, hSN.out _ hy4.out, ?_⟩
      clear hy
      have hHeld : (fun y : World => blk y w.heap.size = some (.cells #[.int .i64 (n : Nat), .int .i64 (n : Nat), .slice a (n * n) cap] 24 (0, 0)) ∧ y.cell? ⟨w.heap.size, 0, none⟩ = some (.int .i64 (n : Nat))) y4 := hSN.out _ hy4.out
      first
        | (refine h_run (i := 5) (v := ?_) hHeld rfl (by kernel_rfl) (by kernel_rfl) (by kernel_rfl) ?_ ?_ ?_
           rotate_left
           · rfl
           · (intro x hSx; (try dsimp only at hSx); go_simp <;> with_reducible rfl)
           simp only [Act.put, List.setIfInBounds_toArray, List.set_cons_zero, List.set_cons_succ])
        | (refine h_skip (i := 5) hHeld rfl (by kernel_rfl) (by kernel_rfl) (by kernel_rfl) ?_ ?_
           · rfl
           simp only [Act.put, List.setIfInBounds_toArray, List.set_cons_zero, List.set_cons_succ])
      clear hHeld
      refine h_done (by kernel_rfl) ?_
      have i1 : decide ((n : Int) < (n : Int)) = false := by simp
      have bv := hSV.out y4 hy4.out
      go_wp2_with fail
      refine (l_ref n n (some ⟨g, 0, none⟩) (n * n) (n * n) y4).mono ?_
      rintro e y5 ⟨rfl, hy⟩
      have hy5 := Lib.hid (below_step hy4.out hy4.out.size hy)
      clear hy
      clear bv
      go_wp2_with fail
      refine (krt.out (some ⟨g, 0, none⟩) (n * n) y5).mono ?_
      rintro e y6 ⟨rfl, hy⟩
      have hy6 := Lib.hid (below_step hy5.out hy5.out.size hy)
      clear hy
      have bm := hSM.out y6 hy6.out
      have bv := hSV.out y6 hy6.out
      have c0 : y6.cell? ⟨w.heap.size, 0, none⟩ = some (.int .i64 (n : Nat)) := (cell_of_block (blk_heap bm)).trans rfl
      have c1 : y6.cell? ⟨w.heap.size, 1, none⟩ = some (.int .i64 (n : Nat)) := (cell_of_block (blk_heap bm)).trans rfl
      have d0 : y6.cell? ⟨q, 0, none⟩ = some (.int .i64 (n : Nat)) := (cell_of_block (blk_heap bv)).trans rfl
      have d1 : y6.cell? ⟨q, 1, none⟩ = some (.int .i64 (n : Nat)) := (cell_of_block (blk_heap bv)).trans rfl
      go_wp2_with fail
      refine (x_identity n y6 hn).mono ?_
      rintro e y7 ⟨s, cs, rfl, hmI, _, _, hy⟩
      have hmIh := Lib.hid hmI
      have hy7 := Lib.hid (below_step hy6.out hy6.out.size hy)
      clear hy hmI bm bv c0 c1 d0 d1 t1 t2
      go_upto_region 14 with (fail)
      obtain ⟨z0, z1, z2⟩ := boxed y7 #[.int .i64 0, .int .i64 0, .slice none 0 0] #[.int .i64 (n : Nat), .int .i64 (n : Nat), .slice s (n * n) cs] 33
      generalize World.setRow (World.alloc y7 _) _ _ = Y at *
      have hYX : Hid (Below X.heap.size X Y) := hide (hy7.out.trans (z2.mono hy7.out.size))
      have hix := Lib.hid (blk_of z0)
      have hil : y7.heap.size < Y.heap.size := by omega
      obtain ⟨u, hu⟩ : ∃ u, y7.heap.size = u := ⟨_, rfl⟩
      rw [hu] at hix hil ⊢
      have hYb : Hid (∀ y, Below Y.heap.size Y y → Below X.heap.size X y) := hide (fun y hy => hYX.out.trans (hy.mono hYX.out.size))
      have hmI : Hid (∀ y, Below Y.heap.size Y y → MAt y s n n idF) := hide (fun y hy => (hmIh.out.below z2).below hy)
      clear z0 z1 z2 hu
      have hS3 : Hid (∀ y, Below Y.heap.size Y y → blk y w.heap.size = some (.cells #[.int .i64 (n : Nat), .int .i64 (n : Nat), .slice a (n * n) cap] 24 (0, 0)) ∧ blk y q = some (.cells #[.int .i64 (n : Nat), .int .i64 (n : Nat), .slice (some ⟨g, 0, none⟩) (n * n) (n * n)] 24 (0, 0)) ∧ blk y u = some (.cells #[.int .i64 (n : Nat), .int .i64 (n : Nat), .slice s (n * n) cs] 33 (0, 0))) := hide (fun y hy => ⟨hSM.out y (hYb.out y hy), hSV.out y (hYb.out y hy), (blk_below hy hil).trans hix.out⟩)
      have hivF := hivb.out
      have kml := Lib.hid (fun y (hy : Below Y.heap.size Y y) => x_mul n n n (some ⟨g, 0, none⟩) a (n * n) cap E F y (hmV.out y (hYb.out y hy)) (hmM.out y (hYb.out y hy)) hivF hbd hn hn hn)
      have kml2 := Lib.hid (fun y (hy : Below Y.heap.size Y y) => x_mul n n n a (some ⟨g, 0, none⟩) cap (n * n) F E y (hmM.out y (hYb.out y hy)) (hmV.out y (hYb.out y hy)) hbd hivF hn hn hn)
      have hBd := Lib.hid (below_drewN (Below.refl Y.heap.size Y) 1)
      have hrc := Nat.le_trans (rc_le hn hn) (show 65025 ≤ 100000000 by decide)
      have ksm := Lib.hid (fun s1 c1 y (h1 : MAt y s1 n n idF) (h2 : MAt y s n n idF) => x_same n n s1 s c1 cs (n * n) (flF n idF) y h1.by h2.by hrc)
      clear hrc hivF
      refine h_begin 17 (fun y : World => blk y w.heap.size = some (.cells #[.int .i64 (n : Nat), .int .i64 (n : Nat), .slice a (n * n) cap] 24 (0, 0)) ∧ blk y q = some (.cells #[.int .i64 (n : Nat), .int .i64 (n : Nat), .slice (some ⟨g, 0, none⟩) (n * n) (n * n)] 24 (0, 0)) ∧ blk y u = some (.cells #[.int .i64 (n : Nat), .int .i64 (n : Nat), .slice s (n * n) cs] 33 (0, 0))) rfl (by kernel_rfl) (hS3.out _ hBd.out) ?_
      have hHeld : (fun y : World => blk y w.heap.size = some (.cells #[.int .i64 (n : Nat), .int .i64 (n : Nat), .slice a (n * n) cap] 24 (0, 0)) ∧ blk y q = some (.cells #[.int .i64 (n : Nat), .int .i64 (n : Nat), .slice (some ⟨g, 0, none⟩) (n * n) (n * n)] 24 (0, 0)) ∧ blk y u = some (.cells #[.int .i64 (n : Nat), .int .i64 (n : Nat), .slice s (n * n) cs] 33 (0, 0))) Y.drew := hS3.out _ hBd.out
      first
        | (refine h_run (i := 0) (v := ?_) hHeld rfl (by kernel_rfl) (by kernel_rfl) (by kernel_rfl) ?_ ?_ ?_
           rotate_left
           · rfl
           · (intro x hSx; (try dsimp only at hSx); go_simp <;> with_reducible rfl)
           simp only [Act.put, List.setIfInBounds_toArray, List.set_cons_zero, List.set_cons_succ])
        | (refine h_skip (i := 0) hHeld rfl (by kernel_rfl) (by kernel_rfl) (by kernel_rfl) ?_ ?_
           · rfl
           simp only [Act.put, List.setIfInBounds_toArray, List.set_cons_zero, List.set_cons_succ])
      first
        | (refine h_run (i := 2) (v := ?_) hHeld rfl (by kernel_rfl) (by kernel_rfl) (by kernel_rfl) ?_ ?_ ?_
           rotate_left
           · rfl
           · (intro x hSx; (try dsimp only at hSx); go_simp <;> with_reducible rfl)
           simp only [Act.put, List.setIfInBounds_toArray, List.set_cons_zero, List.set_cons_succ])
        | (refine h_skip (i := 2) hHeld rfl (by kernel_rfl) (by kernel_rfl) (by kernel_rfl) ?_ ?_
           · rfl
           simp only [Act.put, List.setIfInBounds_toArray, List.set_cons_zero, List.set_cons_succ])
      first
        | (refine h_run (i := 5) (v := ?_) hHeld rfl (by kernel_rfl) (by kernel_rfl) (by kernel_rfl) ?_ ?_ ?_
           rotate_left
           · rfl
           · (intro x hSx; (try dsimp only at hSx); go_simp <;> with_reducible rfl)
           simp only [Act.put, List.setIfInBounds_toArray, List.set_cons_zero, List.set_cons_succ])
        | (refine h_skip (i := 5) hHeld rfl (by kernel_rfl) (by kernel_rfl) (by kernel_rfl) ?_ ?_
           · rfl
           simp only [Act.put, List.setIfInBounds_toArray, List.set_cons_zero, List.set_cons_succ])
      clear hHeld
      refine h_call (i := 1) (fun y : World => blk y w.heap.size = some (.cells #[.int .i64 (n : Nat), .int .i64 (n : Nat), .slice a (n * n) cap] 24 (0, 0)) ∧ blk y q = some (.cells #[.int .i64 (n : Nat), .int .i64 (n : Nat), .slice (some ⟨g, 0, none⟩) (n * n) (n * n)] 24 (0, 0)) ∧ blk y u = some (.cells #[.int .i64 (n : Nat), .int .i64 (n : Nat), .slice s (n * n) cs] 33 (0, 0))) (fun _ h => h) (l_ref n n (some ⟨g, 0, none⟩) (n * n) (n * n) Y.drew) rfl (by kernel_rfl) rfl ?_ ?_
      · go_simp <;> with_reducible rfl
      rintro e p1 ⟨rfl, hy⟩
      have hp1 := Lib.hid (below_step hBd.out hBd.out.size hy)
      refine ⟨_, rfl, hS3.out _ hp1.out, ?_⟩

      clear hy
      refine h_call (i := 3) (fun y : World => blk y w.heap.size = some (.cells #[.int .i64 (n : Nat), .int .i64 (n : Nat), .slice a (n * n) cap] 24 (0, 0)) ∧ blk y q = some (.cells #[.int .i64 (n : Nat), .int .i64 (n : Nat), .slice (some ⟨g, 0, none⟩) (n * n) (n * n)] 24 (0, 0)) ∧ blk y u = some (.cells #[.int .i64 (n : Nat), .int .i64 (n : Nat), .slice s (n * n) cs] 33 (0, 0))) (fun _ h => h) (l_ref n n a (n * n) cap p1) rfl (by kernel_rfl) rfl ?_ ?_
      · go_simp <;> with_reducible rfl
      rintro e p2 ⟨rfl, hy⟩
      have hp2 := Lib.hid (below_step hp1.out hp1.out.size hy)
      refine ⟨_, rfl, hS3.out _ hp2.out, ?_⟩

      clear hy
      refine h_call (i := 4) (fun y : World => blk y w.heap.size = some (.cells #[.int .i64 (n : Nat), .int .i64 (n : Nat), .slice a (n * n) cap] 24 (0, 0)) ∧ blk y q = some (.cells #[.int .i64 (n : Nat), .int .i64 (n : Nat), .slice (some ⟨g, 0, none⟩) (n * n) (n * n)] 24 (0, 0)) ∧ blk y u = some (.cells #[.int .i64 (n : Nat), .int .i64 (n : Nat), .slice s (n * n) cs] 33 (0, 0))) (fun _ h => h) (kml.out p2 hp2.out) rfl (by kernel_rfl) rfl ?_ ?_
      · go_simp <;> with_reducible rfl
      rintro e p3 ⟨s1, k1, rfl, hm1, _, _, hy⟩
      have hp3 := Lib.hid (below_step hp2.out hp2.out.size hy)
      refine ⟨_, rfl, hS3.out _ hp3.out, ?_⟩
      have hm1h := Lib.hid (hm1.eqv (fun i k hi hk => (hinv2.out i k hi hk).1))
      clear hm1
      clear hy
      refine h_call (i := 6) (fun y : World => blk y w.heap.size = some (.cells #[.int .i64 (n : Nat), .int .i64 (n : Nat), .slice a (n * n) cap] 24 (0, 0)) ∧ blk y q = some (.cells #[.int .i64 (n : Nat), .int .i64 (n : Nat), .slice (some ⟨g, 0, none⟩) (n * n) (n * n)] 24 (0, 0)) ∧ blk y u = some (.cells #[.int .i64 (n : Nat), .int .i64 (n : Nat), .slice s (n * n) cs] 33 (0, 0))) (fun _ h => h) (ksm.out s1 k1 p3 hm1h.out (hmI.out p3 hp3.out)) rfl (by kernel_rfl) rfl ?_ ?_
      · go_simp <;> with_reducible rfl
      rintro e p4 ⟨rfl, hy⟩
      have hp4 := Lib.hid (below_step hp3.out hp3.out.size hy)
      refine ⟨_, rfl, hS3.out _ hp4.out, ?_⟩

      clear hy
      have hHeld : (fun y : World => blk y w.heap.size = some (.cells #[.int .i64 (n : Nat), .int .i64 (n : Nat), .slice a (n * n) cap] 24 (0, 0)) ∧ blk y q = some (.cells #[.int .i64 (n : Nat), .int .i64 (n : Nat), .slice (some ⟨g, 0, none⟩) (n * n) (n * n)] 24 (0, 0)) ∧ blk y u = some (.cells #[.int .i64 (n : Nat), .int .i64 (n : Nat), .slice s (n * n) cs] 33 (0, 0))) p4 := hS3.out _ hp4.out
      first
        | (refine h_run (i := 7) (v := ?_) hHeld rfl (by kernel_rfl) (by kernel_rfl) (by kernel_rfl) ?_ ?_ ?_
           rotate_left
           · rfl
           · (intro x hSx; (try dsimp only at hSx); go_simp <;> with_reducible rfl)
           simp only [Act.put, List.setIfInBounds_toArray, List.set_cons_zero, List.set_cons_succ])
        | (refine h_skip (i := 7) hHeld rfl (by kernel_rfl) (by kernel_rfl) (by kernel_rfl) ?_ ?_
           · rfl
           simp only [Act.put, List.setIfInBounds_toArray, List.set_cons_zero, List.set_cons_succ])
      first
        | (refine h_run (i := 8) (v := ?_) hHeld rfl (by kernel_rfl) (by kernel_rfl) (by kernel_rfl) ?_ ?_ ?_
           rotate_left
           · rfl
           · (intro x hSx; (try dsimp only at hSx); go_simp <;> with_reducible rfl)
           simp only [Act.put, List.setIfInBounds_toArray, List.set_cons_zero, List.set_cons_succ])
        | (refine h_skip (i := 8) hHeld rfl (by kernel_rfl) (by kernel_rfl) (by kernel_rfl) ?_ ?_
           · rfl
           simp only [Act.put, List.setIfInBounds_toArray, List.set_cons_zero, List.set_cons_succ])
      first
        | (refine h_run (i := 10) (v := ?_) hHeld rfl (by kernel_rfl) (by kernel_rfl) (by kernel_rfl) ?_ ?_ ?_
           rotate_left
           · rfl
           · (intro x hSx; (try dsimp only at hSx); go_simp <;> with_reducible rfl)
           simp only [Act.put, List.setIfInBounds_toArray, List.set_cons_zero, List.set_cons_succ])
        | (refine h_skip (i := 10) hHeld rfl (by kernel_rfl) (by kernel_rfl) (by kernel_rfl) ?_ ?_
           · rfl
           simp only [Act.put, List.setIfInBounds_toArray, List.set_cons_zero, List.set_cons_succ])
      first
        | (refine h_run (i := 13) (v := ?_) hHeld rfl (by kernel_rfl) (by kernel_rfl) (by kernel_rfl) ?_ ?_ ?_
           rotate_left
           · rfl
           · (intro x hSx; (try dsimp only at hSx); go_simp <;> with_reducible rfl)
           simp only [Act.put, List.setIfInBounds_toArray, List.set_cons_zero, List.set_cons_succ])
        | (refine h_skip (i := 13) hHeld rfl (by kernel_rfl) (by kernel_rfl) (by kernel_rfl) ?_ ?_
           · rfl
           simp only [Act.put, List.setIfInBounds_toArray, List.set_cons_zero, List.set_cons_succ])
      clear hHeld
      refine h_call (i := 9) (fun y : World => blk y w.heap.size = some (.cells #[.int .i64 (n : Nat), .int .i64 (n : Nat), .slice a (n * n) cap] 24 (0, 0)) ∧ blk y q = some (.cells #[.int .i64 (n : Nat), .int .i64 (n : Nat), .slice (some ⟨g, 0, none⟩) (n * n) (n * n)] 24 (0, 0)) ∧ blk y u = some (.cells #[.int .i64 (n : Nat), .int .i64 (n : Nat), .slice s (n * n) cs] 33 (0, 0))) (fun _ h => h) (l_ref n n a (n * n) cap p4) rfl (by kernel_rfl) rfl ?_ ?_
      · go_simp <;> with_reducible rfl
      rintro e p5 ⟨rfl, hy⟩
      have hp5 := Lib.hid (below_step hp4.out hp4.out.size hy)
      refine ⟨_, rfl, hS3.out _ hp5.out, ?_⟩

      clear hy
      refine h_call (i := 11) (fun y : World => blk y w.heap.size = some (.cells #[.int .i64 (n : Nat), .int .i64 (n : Nat), .slice a (n * n) cap] 24 (0, 0)) ∧ blk y q = some (.cells #[.int .i64 (n : Nat), .int .i64 (n : Nat), .slice (some ⟨g, 0, none⟩) (n * n) (n * n)] 24 (0, 0)) ∧ blk y u = some (.cells #[.int .i64 (n : Nat), .int .i64 (n : Nat), .slice s (n * n) cs] 33 (0, 0))) (fun _ h => h) (l_ref n n (some ⟨g, 0, none⟩) (n * n) (n * n) p5) rfl (by kernel_rfl) rfl ?_ ?_
      · go_simp <;> with_reducible rfl
      rintro e p6 ⟨rfl, hy⟩
      have hp6 := Lib.hid (below_step hp5.out hp5.out.size hy)
      refine ⟨_, rfl, hS3.out _ hp6.out, ?_⟩

      clear hy
      refine h_call (i := 12) (fun y : World => blk y w.heap.size = some (.cells #[.int .i64 (n : Nat), .int .i64 (n : Nat), .slice a (n * n) cap] 24 (0, 0)) ∧ blk y q = some (.cells #[.int .i64 (n : Nat), .int .i64 (n : Nat), .slice (some ⟨g, 0, none⟩) (n * n) (n * n)] 24 (0, 0)) ∧ blk y u = some (.cells #[.int .i64 (n : Nat), .int .i64 (n : Nat), .slice s (n * n) cs] 33 (0, 0))) (fun _ h => h) (kml2.out p6 hp6.out) rfl (by kernel_rfl) rfl ?_ ?_
      · go_simp <;> with_reducible rfl
      rintro e p7 ⟨s2, k2, rfl, hm2, _, _, hy⟩
      have hp7 := Lib.hid (below_step hp6.out hp6.out.size hy)
      refine ⟨_, rfl, hS3.out _ hp7.out, ?_⟩
      have hm2h := Lib.hid (hm2.eqv (fun i k hi hk => (hinv2.out i k hi hk).2))
      clear hm2
      clear hy
      refine h_call (i := 14) (fun y : World => blk y w.heap.size = some (.cells #[.int .i64 (n : Nat), .int .i64 (n : Nat), .slice a (n * n) cap] 24 (0, 0)) ∧ blk y q = some (.cells #[.int .i64 (n : Nat), .int .i64 (n : Nat), .slice (some ⟨g, 0, none⟩) (n * n) (n * n)] 24 (0, 0)) ∧ blk y u = some (.cells #[.int .i64 (n : Nat), .int .i64 (n : Nat), .slice s (n * n) cs] 33 (0, 0))) (fun _ h => h) (ksm.out s2 k2 p7 hm2h.out (hmI.out p7 hp7.out)) rfl (by kernel_rfl) rfl ?_ ?_
      · go_simp <;> with_reducible rfl
      rintro e p8 ⟨rfl, hy⟩
      have hp8 := Lib.hid (below_step hp7.out hp7.out.size hy)
      refine ⟨_, rfl, hS3.out _ hp8.out, ?_⟩

      clear hy
      have hHeld : (fun y : World => blk y w.heap.size = some (.cells #[.int .i64 (n : Nat), .int .i64 (n : Nat), .slice a (n * n) cap] 24 (0, 0)) ∧ blk y q = some (.cells #[.int .i64 (n : Nat), .int .i64 (n : Nat), .slice (some ⟨g, 0, none⟩) (n * n) (n * n)] 24 (0, 0)) ∧ blk y u = some (.cells #[.int .i64 (n : Nat), .int .i64 (n : Nat), .slice s (n * n) cs] 33 (0, 0))) p8 := hS3.out _ hp8.out
      first
        | (refine h_run (i := 15) (v := ?_) hHeld rfl (by kernel_rfl) (by kernel_rfl) (by kernel_rfl) ?_ ?_ ?_
           rotate_left
           · rfl
           · (intro x hSx; (try dsimp only at hSx); go_simp <;> with_reducible rfl)
           simp only [Act.put, List.setIfInBounds_toArray, List.set_cons_zero, List.set_cons_succ])
        | (refine h_skip (i := 15) hHeld rfl (by kernel_rfl) (by kernel_rfl) (by kernel_rfl) ?_ ?_
           · rfl
           simp only [Act.put, List.setIfInBounds_toArray, List.set_cons_zero, List.set_cons_succ])
      first
        | (refine h_run (i := 16) (v := ?_) hHeld rfl (by kernel_rfl) (by kernel_rfl) (by kernel_rfl) ?_ ?_ ?_
           rotate_left
           · rfl
           · (intro x hSx; (try dsimp only at hSx); go_simp <;> with_reducible rfl)
           simp only [Act.put, List.setIfInBounds_toArray, List.set_cons_zero, List.set_cons_succ])
        | (refine h_skip (i := 16) hHeld rfl (by kernel_rfl) (by kernel_rfl) (by kernel_rfl) ?_ ?_
           · rfl
           simp only [Act.put, List.setIfInBounds_toArray, List.set_cons_zero, List.set_cons_succ])
      clear hHeld
      refine h_done (by kernel_rfl) ?_
      have hlast := Lib.hid (hfin.out _ (hYb.out _ hp8.out))
      go_wp2_with fail
      go_ret
      exact ⟨rfl, hlast.out⟩
    · have kv := Lib.hid (kiv.out.mono (fun e w' h => h.2 hp))
      clear hinv kiv hpl hp
      go_wp2_with fail
      refine kv.out.mono ?_
      rintro e w4 ⟨rfl, hb4⟩
      have w4h := Lib.hid (below_step hb3h.out hb3h.out.size hb4)
      clear hb4 b3 kv
      go_upto_region 7 with (fail)
      obtain ⟨x0, x1, x2⟩ := boxed w4 #[.int .i64 0, .int .i64 0, .slice none 0 0] #[.int .i64 0, .int .i64 0, .slice none 0 0] 24
      generalize World.setRow (World.alloc w4 _) _ _ = X at *
      have hXW : Hid (Below W.heap.size W X) := hide (w4h.out.trans (x2.mono w4h.out.size))
      have hvx := Lib.hid (blk_of x0)
      have hvl : w4.heap.size < X.heap.size := by omega
      obtain ⟨q, hq⟩ : ∃ q, w4.heap.size = q := ⟨_, rfl⟩
      rw [hq] at hvx hvl ⊢
      have hfin : Hid (∀ y, Below X.heap.size X y → Below w.heap.size w y) := hide (fun y hy => hBh.out.trans ((hXW.out.trans (hy.mono hXW.out.size)).mono hBh.out.size))
      have hWX : Hid (∀ y, Below X.heap.size X y → Below W.heap.size W y) := hide (fun y hy => hXW.out.trans (hy.mono hXW.out.size))
      have hSM : Hid (∀ y, Below X.heap.size X y → blk y w.heap.size = some (.cells #[.int .i64 (n : Nat), .int .i64 (n : Nat), .slice a (n * n) cap] 24 (0, 0))) := hide (fun y hy => hS.out y (hWX.out y hy))
      have hSV : Hid (∀ y, Below X.heap.size X y → blk y q = some (.cells #[.int .i64 0, .int .i64 0, .slice none 0 0] 24 (0, 0))) := hide (fun y hy => (blk_below hy hvl).trans hvx.out)
      have hX0 : Hid (Below X.heap.size X X) := hide (Below.refl _ _)
      clear x0 x1 x2 hq
      have bm := hSM.out X hX0.out
      go_wp2_with fail
      refine (l_ref n n a (n * n) cap X).mono ?_
      rintro e y1 ⟨rfl, hy⟩
      have hy1 := Lib.hid (below_step hX0.out hX0.out.size hy)
      clear hy
      clear bm
      go_wp2_with fail
      refine (krt.out a cap y1).mono ?_
      rintro e y2 ⟨rfl, hy⟩
      have hy2 := Lib.hid (below_step hy1.out hy1.out.size hy)
      clear hy
      have bm := hSM.out y2 hy2.out
      have c0 : y2.cell? ⟨w.heap.size, 0, none⟩ = some (.int .i64 (n : Nat)) := (cell_of_block (blk_heap bm)).trans rfl
      have c1 : y2.cell? ⟨w.heap.size, 1, none⟩ = some (.int .i64 (n : Nat)) := (cell_of_block (blk_heap bm)).trans rfl
      go_upto_region 9 with (fail)
      clear bm c0 c1
      have hSN : Hid (∀ y, Below X.heap.size X y → blk y w.heap.size = some (.cells #[.int .i64 (n : Nat), .int .i64 (n : Nat), .slice a (n * n) cap] 24 (0, 0)) ∧ y.cell? ⟨w.heap.size, 0, none⟩ = some (.int .i64 (n : Nat))) := hide (fun y hy => ⟨hSM.out y hy, (cell_of_block (blk_heap (hSM.out y hy))).trans rfl⟩)
      have hBd := Lib.hid (below_drewN hy2.out 1)
      refine h_begin 6 (fun y : World => blk y w.heap.size = some (.cells #[.int .i64 (n : Nat), .int .i64 (n : Nat), .slice a (n * n) cap] 24 (0, 0)) ∧ y.cell? ⟨w.heap.size, 0, none⟩ = some (.int .i64 (n : Nat))) rfl (by kernel_rfl) (hSN.out _ hBd.out) ?_
      have hHeld : (fun y : World => blk y w.heap.size = some (.cells #[.int .i64 (n : Nat), .int .i64 (n : Nat), .slice a (n * n) cap] 24 (0, 0)) ∧ y.cell? ⟨w.heap.size, 0, none⟩ = some (.int .i64 (n : Nat))) y2.drew := hSN.out _ hBd.out
      first
        | (refine h_run (i := 0) (v := ?_) hHeld rfl (by kernel_rfl) (by kernel_rfl) (by kernel_rfl) ?_ ?_ ?_
           rotate_left
           · rfl
           · (intro x hSx; (try dsimp only at hSx); go_simp <;> with_reducible rfl)
           simp only [Act.put, List.setIfInBounds_toArray, List.set_cons_zero, List.set_cons_succ])
        | (refine h_skip (i := 0) hHeld rfl (by kernel_rfl) (by kernel_rfl) (by kernel_rfl) ?_ ?_
           · rfl
           simp only [Act.put, List.setIfInBounds_toArray, List.set_cons_zero, List.set_cons_succ])
      first
        | (refine h_run (i := 3) (v := ?_) hHeld rfl (by kernel_rfl) (by kernel_rfl) (by kernel_rfl) ?_ ?_ ?_
           rotate_left
           · rfl
           · (intro x hSx; (try dsimp only at hSx); go_simp <;> with_reducible rfl)
           simp only [Act.put, List.setIfInBounds_toArray, List.set_cons_zero, List.set_cons_succ])
        | (refine h_skip (i := 3) hHeld rfl (by kernel_rfl) (by kernel_rfl) (by kernel_rfl) ?_ ?_
           · rfl
           simp only [Act.put, List.setIfInBounds_toArray, List.set_cons_zero, List.set_cons_succ])
      first
        | (refine h_run (i := 4) (v := ?_) hHeld rfl (by kernel_rfl) (by kernel_rfl) (by kernel_rfl) ?_ ?_ ?_
           rotate_left
           · rfl
           · (intro x hSx; (try dsimp only at hSx); go_simp <;> with_reducible rfl)
           simp only [Act.put, List.setIfInBounds_toArray, List.set_cons_zero, List.set_cons_succ])
        | (refine h_skip (i := 4) hHeld rfl (by kernel_rfl) (by kernel_rfl) (by kernel_rfl) ?_ ?_
           · rfl
           simp only [Act.put, List.setIfInBounds_toArray, List.set_cons_zero, List.set_cons_succ])
      clear hHeld
      refine h_call (i := 1) (fun y : World => blk y w.heap.size = some (.cells #[.int .i64 (n : Nat), .int .i64 (n : Nat), .slice a (n * n) cap] 24 (0, 0)) ∧ y.cell? ⟨w.heap.size, 0, none⟩ = some (.int .i64 (n : Nat))) (fun _ h => h) (l_ref n n a (n * n) cap y2.drew) rfl (by kernel_rfl) rfl ?_ ?_
      · go_simp <;> with_reducible rfl
      rintro e y3 ⟨rfl, hy⟩
      have hy3 := Lib.hid (below_step hBd.out hBd.out.size hy)
      refine ⟨_, rfl, hSN.out _ hy3.out, ?_⟩
      clear hy
      refine h_call (i := 2) (fun y : World => blk y w.heap.size = some (.cells #[.int .i64 (n : Nat), .int .i64 (n : Nat), .slice a (n * n) cap] 24 (0, 0)) ∧ y.cell? ⟨w.heap.size, 0, none⟩ = some (.int .i64 (n : Nat))) (fun _ h => h) (krk.out y3 (hWX.out y3 hy3.out)) rfl (by kernel_rfl) rfl ?_ ?_
      · go_simp <;> with_reducible rfl
      rintro e y4 ⟨rfl, hy⟩
      have hy4 := Lib.hid (below_step hy3.out hy3.out.size hy)
      refine ⟨_, rfl, hSN.out _ hy4.out, ?_⟩
      clear hy
      have hHeld : (fun y : World => blk y w.heap.size = some (.cells #[.int .i64 (n : Nat), .int .i64 (n : Nat), .slice a (n * n) cap] 24 (0, 0)) ∧ y.cell? ⟨w.heap.size, 0, none⟩ = some (.int .i64 (n : Nat))) y4 := hSN.out _ hy4.out
      first
        | (refine h_run (i := 5) (v := ?_) hHeld rfl (by kernel_rfl) (by kernel_rfl) (by kernel_rfl) ?_ ?_ ?_
           rotate_left
           · rfl
           · (intro x hSx; (try dsimp only at hSx); go_simp <;> with_reducible rfl)
           simp only [Act.put, List.setIfInBounds_toArray, List.set_cons_zero, List.set_cons_succ])
        | (refine h_skip (i := 5) hHeld rfl (by kernel_rfl) (by kernel_rfl) (by kernel_rfl) ?_ ?_
           · rfl
           simp only [Act.put, List.setIfInBounds_toArray, List.set_cons_zero, List.set_cons_succ])
      clear hHeld
      refine h_done (by kernel_rfl) ?_
      have i1 : decide ((k : Int) < (n : Int)) = true := decide_eq_true (by omega)
      have bv := hSV.out y4 hy4.out
      go_wp2_with fail
      refine (l_none y4).mono ?_
      rintro e y5 ⟨rfl, hy⟩
      have hy5 := Lib.hid (below_step hy4.out hy4.out.size hy)
      clear hy
      have hlast := Lib.hid (hfin.out _ hy5.out)
      go_wp2_with fail
      go_ret
      exact ⟨rfl, hlast.out⟩
  · have hno : rightB r c len = false ∨ r ≠ c := by
      rw [hba]
      cases ba with
      | false => exact .inl rfl
      | true => exact .inr (fun h => hgo ⟨rfl, h⟩)
    have hne := Lib.hid (fun (h : ba = true) => beq_i (fun e : r = c => hgo ⟨h, e⟩))
    go_wp2_with fail
    refine (m_invert_no p r c a len cap w3 hno).mono ?_
    rintro e w4 ⟨rfl, hb4⟩
    have w4h := Lib.hid (below_step hb3h.out hb3h.out.size hb4)
    clear hb4 b3 hno hgo
    go_upto_region 7 with (fail)
    obtain ⟨x0, x1, x2⟩ := boxed w4 #[.int .i64 0, .int .i64 0, .slice none 0 0] #[.int .i64 0, .int .i64 0, .slice none 0 0] 24
    generalize World.setRow (World.alloc w4 _) _ _ = X at *
    have hXW : Hid (Below W.heap.size W X) := hide (w4h.out.trans (x2.mono w4h.out.size))
    have hvx := Lib.hid (blk_of x0)
    have hvl : w4.heap.size < X.heap.size := by omega
    obtain ⟨q, hq⟩ : ∃ q, w4.heap.size = q := ⟨_, rfl⟩
    rw [hq] at hvx hvl ⊢
    have hfin : Hid (∀ y, Below X.heap.size X y → Below w.heap.size w y) := hide (fun y hy => hBh.out.trans ((hXW.out.trans (hy.mono hXW.out.size)).mono hBh.out.size))
    have hWX : Hid (∀ y, Below X.heap.size X y → Below W.heap.size W y) := hide (fun y hy => hXW.out.trans (hy.mono hXW.out.size))
    have hSM : Hid (∀ y, Below X.heap.size X y → blk y w.heap.size = some (.cells #[.int .i64 r, .int .i64 c, .slice a len cap] 24 (0, 0))) := hide (fun y hy => hS.out y (hWX.out y hy))
    have hSV : Hid (∀ y, Below X.heap.size X y → blk y q = some (.cells #[.int .i64 0, .int .i64 0, .slice none 0 0] 24 (0, 0))) := hide (fun y hy => (blk_below hy hvl).trans hvx.out)
    have hX0 : Hid (Below X.heap.size X X) := hide (Below.refl _ _)
    clear x0 x1 x2 hq
    have bm := hSM.out X hX0.out
    go_wp2_with fail
    refine (l_ref r c a len cap X).mono ?_
    rintro e y1 ⟨rfl, hy⟩
    have hy1 := Lib.hid (below_step hX0.out hX0.out.size hy)
    clear hy
    clear bm
    have kx := x_right r c a len cap y1
    rw [hba] at kx
    go_wp2_with fail
    refine (kx).mono ?_
    rintro e y2 ⟨rfl, hy⟩
    have hy2 := Lib.hid (below_step hy1.out hy1.out.size hy)
    clear hy
    clear kx
    have bm := hSM.out y2 hy2.out
    have bv := hSV.out y2 hy2.out
    have c0 : y2.cell? ⟨w.heap.size, 0, none⟩ = some (.int .i64 r) := (cell_of_block (blk_heap bm)).trans rfl
    have c1 : y2.cell? ⟨w.heap.size, 1, none⟩ = some (.int .i64 c) := (cell_of_block (blk_heap bm)).trans rfl
    cases ba with
    | false =>
      go_wp2_with fail
      refine (l_none y2).mono ?_
      rintro e y3 ⟨rfl, hy⟩
      have hy3 := Lib.hid (below_step hy2.out hy2.out.size hy)
      clear hy
      have hlast := Lib.hid (hfin.out _ hy3.out)
      go_wp2_with fail
      go_ret
      exact ⟨rfl, hlast.out⟩
    | true =>
      have hn1 := hne.out rfl
      go_wp2_with fail
      refine (l_none y2).mono ?_
      rintro e y3 ⟨rfl, hy⟩
      have hy3 := Lib.hid (below_step hy2.out hy2.out.size hy)
      clear hy
      have hlast := Lib.hid (hfin.out _ hy3.out)
      go_wp2_with fail
      go_ret
      exact ⟨rfl, hlast.out⟩
end Go.Proofs.Ytkcalgolanpjaaa

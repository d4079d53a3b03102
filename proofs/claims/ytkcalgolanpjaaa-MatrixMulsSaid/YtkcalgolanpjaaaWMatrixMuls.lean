/- The walk of the law MatrixMuls: it answers true for any two matrices. -/
import Derived.Test.YtkcalgolanpjaaaMatPair
namespace Go.Proofs.Ytkcalgolanpjaaa
open Go.RowKit
theorem mat_setBox2 {w : World} {a : Option Addr} {R C b : Nat} {F : Nat → Nat → Nat} {r c : Int} {s : Option Addr} {n m : Nat} {T : TypeId} {fr : Nat × Nat} (h : MAt w a R C F) (hb : w.heap[b]? = some (.cells #[.int .i64 r, .int .i64 c, .slice s n m] T fr)) (D : Array Value) : MAt (w.setRow b D) a R C F := mat_setBox h hb D
attribute [local irreducible] gexp gtbl glog rmul rinv rpow zexp mixF blk wLoad wLoadRes loadAns wStore wStoreRes storeAns Plain flF BRow MRow IsGf MAt By mlF
attribute [local go_sem ↓] ld_m0 ld_x0 sto_m0 sto_x0
attribute [local go_sem] ld_m ld_x sto_m sto_x loadAns_some storeAns_some mx_size mx_plain blk_alloc_if blk_setRow_if blk_drew_at blk_drewN_at rowPut_some blk_setCell_if cellPut_some
set_option maxRecDepth 100000 in
set_option maxHeartbeats 4000000 in
theorem matrixMuls_walk (v0 v1 : Value) (w : World) (w0 : IsMx w v0) (w1 : IsMx w v1) :
    Calls Try.prog 5 #[v0, v1] w fun e w' => e = .returned (.bool true) ∧ Below w.heap.size w w' := by
  obtain ⟨r, c, a, len, cap, zs, rfl, _, _, hrow⟩ := w0
  obtain ⟨r2, c2, b, len2, cap2, zs2, rfl, _, _, hrow2⟩ := w1
  obtain ⟨h0, h1, hsz, hB⟩ := two_allocs w (.cells #[.int .i64 r, .int .i64 c, .slice a len cap] 24) (.cells #[.int .i64 r2, .int .i64 c2, .slice b len2 cap2] 24)
  have hrx := Lib.hid (fun h => mx_right (r := r) (c := c) hrow h)
  have hrx2 := Lib.hid (fun h => mx_right (r := r2) (c := c2) hrow2 h)
  clear hrow hrow2
  go_enter Try.func5, Try.ntmps5
  go_upto_region 1 with (fail)
  generalize World.alloc (World.alloc w _) _ = W at *
  have hx0 : w.heap.size < W.heap.size := by omega
  have hx1 : w.heap.size + 1 < W.heap.size := by omega
  have hwW : w.heap.size ≤ W.heap.size := by omega
  have h0h := Lib.hid (blk_of h0)
  have h1h := Lib.hid (blk_of h1)
  have hBh := Lib.hid hB
  clear h0 h1 hsz hB
  have hS : Hid (∀ y, Below W.heap.size W y → (blk y w.heap.size = some (.cells #[.int .i64 r, .int .i64 c, .slice a len cap] 24 (0, 0)) ∧ blk y (w.heap.size + 1) = some (.cells #[.int .i64 r2, .int .i64 c2, .slice b len2 cap2] 24 (0, 0)))) := hide (fun y hy => ⟨(blk_below hy hx0).trans h0h.out, (blk_below hy hx1).trans h1h.out⟩)
  go_wp2_with fail
  refine (m_awake W).mono ?_
  rintro e w1 ⟨rfl, hb1⟩
  have hb1h := Lib.hid hb1
  have b1 := (hS.out w1 hb1).1
  clear hb1
  go_wp2_with fail
  refine (l_small r c a len cap w1).mono ?_
  rintro e w2 ⟨sm, rfl, hb2, _⟩
  have hb2h := Lib.hid (below_step hb1h.out hb1h.out.size hb2)
  have hfin2 := Lib.hid (hBh.out.trans (hb2h.out.mono hBh.out.size))
  have b2 := (hS.out w2 hb2h.out).2
  clear hb2 b1
  cases sm with
  | false =>
    go_wp2_with fail
    go_ret
    exact ⟨rfl, hfin2.out⟩
  | true =>
  go_wp2_with fail
  refine (l_small r2 c2 b len2 cap2 w2).mono ?_
  rintro e w3 ⟨sm, rfl, hb3, _⟩
  have hb3h := Lib.hid (below_step hb2h.out hb2h.out.size hb3)
  have hfin3 := Lib.hid (hBh.out.trans (hb3h.out.mono hBh.out.size))
  clear hb3 b2
  cases sm with
  | false =>
    go_wp2_with fail
    go_ret
    exact ⟨rfl, hfin3.out⟩
  | true =>
  obtain ⟨ba, hba⟩ : ∃ ba, rightB r c len = ba := ⟨_, rfl⟩
  obtain ⟨bb, hbb⟩ : ∃ bb, rightB r2 c2 len2 = bb := ⟨_, rfl⟩
  by_cases hfit : ba = true ∧ bb = true ∧ c = r2
  · obtain ⟨rfl, rfl, rfl⟩ := hfit
    obtain ⟨R, K, F, hx⟩ := hrx.out hba
    obtain ⟨K', C, G, hx2⟩ := hrx2.out hbb
    obtain ⟨rfl, hcK, rfl, hR, hK, hmA, hbF, hnA, hcA⟩ := hx
    obtain ⟨hrK, rfl, rfl, _, hC, hmB, hbG, hnB, hcB⟩ := hx2
    obtain rfl : K = K' := by rw [hcK] at hrK; exact Int.ofNat.inj hrK
    subst hcK
    have hmA := Lib.hid hmA
    have hmB := Lib.hid hmB
    have kmu := Lib.hid (fun p y (hy : Below W.heap.size W y) (hp : IsGf y p) => m_mul p R K C a b cap cap2 F G y hp (hmA.out.below (hBh.out.trans (hy.mono hwW))) (hmB.out.below (hBh.out.trans (hy.mono hwW))) hbF hbG hR hK hC hcA hcB)
    go_upto_region 5 with (fail)
    go_cut [5, 6] (fun v5 v6 wx => ∃ q g : Nat, v5 = .pointer (some ⟨q, 0, none⟩) ∧ v6 = .int .i64 0 ∧ wx.heap[q]? = some (.cells #[.int .i64 (R : Nat), .int .i64 (C : Nat), .slice (some ⟨g, 0, none⟩) (R * C) (R * C)] 24 (0, 0)) ∧ Below W.heap.size W wx ∧ MAt wx (some ⟨g, 0, none⟩) R C (mlF F G K))
    case first =>
      have hBd : Hid (Below W.heap.size W w3.drew) := hide (below_drewN hb3h.out 1)
      have hz := zeroM
      have hWd : W.heap.size ≤ w3.drew.heap.size := hBd.out.size
      refine h_begin 10 (fun y : World => blk y w.heap.size = some (.cells #[.int .i64 (R : Nat), .int .i64 (K : Nat), .slice a (R * K) cap] 24 (0, 0)) ∧ blk y (w.heap.size + 1) = some (.cells #[.int .i64 (K : Nat), .int .i64 (C : Nat), .slice b (K * C) cap2] 24 (0, 0))) rfl (by kernel_rfl) (hS.out _ hBd.out) ?_
      have hHeld : (fun y : World => blk y w.heap.size = some (.cells #[.int .i64 (R : Nat), .int .i64 (K : Nat), .slice a (R * K) cap] 24 (0, 0)) ∧ blk y (w.heap.size + 1) = some (.cells #[.int .i64 (K : Nat), .int .i64 (C : Nat), .slice b (K * C) cap2] 24 (0, 0))) w3.drew := hS.out _ hBd.out
      first
        | (refine h_run (i := 1) (v := ?_) hHeld rfl (by kernel_rfl) (by kernel_rfl) (by kernel_rfl) ?_ ?_ ?_
           rotate_left
           · rfl
           · (intro x hSx; (try dsimp only at hSx); go_simp <;> with_reducible rfl)
           simp only [Act.put, List.setIfInBounds_toArray, List.set_cons_zero, List.set_cons_succ])
        | (refine h_skip (i := 1) hHeld rfl (by kernel_rfl) (by kernel_rfl) (by kernel_rfl) ?_ ?_
           · rfl
           simp only [Act.put, List.setIfInBounds_toArray, List.set_cons_zero, List.set_cons_succ])
      first
        | (refine h_run (i := 2) (v := ?_) hHeld rfl (by kernel_rfl) (by kernel_rfl) (by kernel_rfl) ?_ ?_ ?_
           rotate_left
           · rfl
           · (intro x hSx; (try dsimp only at hSx); go_simp <;> with_reducible rfl)
           simp only [Act.put, List.setIfInBounds_toArray, List.set_cons_zero, List.set_cons_succ])
        | (refine h_skip (i := 2) hHeld rfl (by kernel_rfl) (by kernel_rfl) (by kernel_rfl) ?_ ?_
           · rfl
           simp only [Act.put, List.setIfInBounds_toArray, List.set_cons_zero, List.set_cons_succ])
      clear hHeld
      generalize w3.drew = z at *
      have hal : Below W.heap.size W (z.alloc (.cells #[.int .i64 0, .int .i64 0, .slice none 0 0] 24)) := hBd.out.alloc hWd _
      refine h_pairN (i := 7) (j := 0) (v := .pointer (some ⟨z.heap.size, 0, none⟩)) (w1 := z.alloc (.cells #[.int .i64 0, .int .i64 0, .slice none 0 0] 24)) (gf_new_below z) rfl rfl (by kernel_rfl) rfl rfl ?_ ?_ (hS.out _ hal) ?_ ?_
      · go_simp <;> with_reducible rfl
      · go_simp <;> with_reducible rfl
      · have hbq := last_block0 z (.cells #[.int .i64 0, .int .i64 0, .slice none 0 0] 24) _ rfl
        have hzl : z.heap.size < (z.alloc (.cells #[.int .i64 0, .int .i64 0, .slice none 0 0] 24)).heap.size := by show _ < (z.heap.push _).size; rw [Array.size_push]; omega
        have halh := Lib.hid hal
        have hbqh := Lib.hid (blk_of hbq)
        clear hbq hal
        generalize z.alloc (.cells #[.int .i64 0, .int .i64 0, .slice none 0 0] 24) = z1 at *
        refine h_call (i := 0) (fun y : World => blk y w.heap.size = some (.cells #[.int .i64 (R : Nat), .int .i64 (K : Nat), .slice a (R * K) cap] 24 (0, 0)) ∧ blk y (w.heap.size + 1) = some (.cells #[.int .i64 (K : Nat), .int .i64 (C : Nat), .slice b (K * C) cap2] 24 (0, 0))) (fun _ h => h) (gf_new_below z1) rfl (by kernel_rfl) rfl ?_ ?_
        · go_simp <;> with_reducible rfl
        rintro e y1 ⟨rfl, hgf, hy1⟩
        have hY1 := Lib.hid (below_step halh.out halh.out.size hy1)
        have hgfh := Lib.hid hgf
        have hbq1 := Lib.hid ((blk_below hy1 hzl).trans hbqh.out)
        have hzl1 : z.heap.size < y1.heap.size := by have := hy1.size; omega
        refine ⟨_, rfl, hS.out _ hY1.out, ?_⟩
        clear hy1 hgf
        generalize z1.heap.size = p at *
        refine h_call (i := 3) (fun y : World => blk y w.heap.size = some (.cells #[.int .i64 (R : Nat), .int .i64 (K : Nat), .slice a (R * K) cap] 24 (0, 0)) ∧ blk y (w.heap.size + 1) = some (.cells #[.int .i64 (K : Nat), .int .i64 (C : Nat), .slice b (K * C) cap2] 24 (0, 0))) (fun _ h => h) (kmu.out _ y1 hY1.out hgfh.out) rfl (by kernel_rfl) rfl ?_ ?_
        · go_simp <;> with_reducible rfl
        rintro e y2 ⟨g, rfl, _, hmg, hy2⟩
        have hY2 := Lib.hid (below_step hY1.out hY1.out.size hy2)
        have hbq2 := Lib.hid ((blk_below hy2 hzl1).trans hbq1.out)
        refine ⟨_, rfl, hS.out _ hY2.out, ?_⟩
        have hmK := Lib.hid hmg.mat
        clear hy2 hmg
        have hHeld : (fun y : World => blk y w.heap.size = some (.cells #[.int .i64 (R : Nat), .int .i64 (K : Nat), .slice a (R * K) cap] 24 (0, 0)) ∧ blk y (w.heap.size + 1) = some (.cells #[.int .i64 (K : Nat), .int .i64 (C : Nat), .slice b (K * C) cap2] 24 (0, 0))) y2 := hS.out _ hY2.out
        first
          | (refine h_run (i := 4) (v := ?_) hHeld rfl (by kernel_rfl) (by kernel_rfl) (by kernel_rfl) ?_ ?_ ?_
             rotate_left
             · rfl
             · (intro x hSx; (try dsimp only at hSx); go_simp <;> with_reducible rfl)
             simp only [Act.put, List.setIfInBounds_toArray, List.set_cons_zero, List.set_cons_succ])
          | (refine h_skip (i := 4) hHeld rfl (by kernel_rfl) (by kernel_rfl) (by kernel_rfl) ?_ ?_
             · rfl
             simp only [Act.put, List.setIfInBounds_toArray, List.set_cons_zero, List.set_cons_succ])
        first
          | (refine h_run (i := 5) (v := ?_) hHeld rfl (by kernel_rfl) (by kernel_rfl) (by kernel_rfl) ?_ ?_ ?_
             rotate_left
             · rfl
             · (intro x hSx; (try dsimp only at hSx); go_simp <;> with_reducible rfl)
             simp only [Act.put, List.setIfInBounds_toArray, List.set_cons_zero, List.set_cons_succ])
          | (refine h_skip (i := 5) hHeld rfl (by kernel_rfl) (by kernel_rfl) (by kernel_rfl) ?_ ?_
             · rfl
             simp only [Act.put, List.setIfInBounds_toArray, List.set_cons_zero, List.set_cons_succ])
        first
          | (refine h_run (i := 6) (v := ?_) hHeld rfl (by kernel_rfl) (by kernel_rfl) (by kernel_rfl) ?_ ?_ ?_
             rotate_left
             · rfl
             · (intro x hSx; (try dsimp only at hSx); go_simp <;> with_reducible rfl)
             simp only [Act.put, List.setIfInBounds_toArray, List.set_cons_zero, List.set_cons_succ])
          | (refine h_skip (i := 6) hHeld rfl (by kernel_rfl) (by kernel_rfl) (by kernel_rfl) ?_ ?_
             · rfl
             simp only [Act.put, List.setIfInBounds_toArray, List.set_cons_zero, List.set_cons_succ])
        clear hHeld
        have bq := hbq2.out
        refine h_write (i := 8) (w' := y2.setRow z.heap.size #[.int .i64 (R : Nat), .int .i64 (C : Nat), .slice (some ⟨g, 0, none⟩) (R * C) (R * C)]) (fun y : World => blk y w.heap.size = some (.cells #[.int .i64 (R : Nat), .int .i64 (K : Nat), .slice a (R * K) cap] 24 (0, 0)) ∧ blk y (w.heap.size + 1) = some (.cells #[.int .i64 (K : Nat), .int .i64 (C : Nat), .slice b (K * C) cap2] 24 (0, 0))) (fun _ h => h) rfl (by kernel_rfl) rfl ?_ (hS.out _ (below_setRow hY2.out (by omega) _)) ?_
        · go_simp <;> with_reducible rfl
        have hHeld : (fun y : World => blk y w.heap.size = some (.cells #[.int .i64 (R : Nat), .int .i64 (K : Nat), .slice a (R * K) cap] 24 (0, 0)) ∧ blk y (w.heap.size + 1) = some (.cells #[.int .i64 (K : Nat), .int .i64 (C : Nat), .slice b (K * C) cap2] 24 (0, 0))) (y2.setRow z.heap.size #[.int .i64 (R : Nat), .int .i64 (C : Nat), .slice (some ⟨g, 0, none⟩) (R * C) (R * C)]) := hS.out _ (below_setRow hY2.out (by omega) _)
        first
          | (refine h_run (i := 9) (v := ?_) hHeld rfl (by kernel_rfl) (by kernel_rfl) (by kernel_rfl) ?_ ?_ ?_
             rotate_left
             · rfl
             · (intro x hSx; (try dsimp only at hSx); go_simp <;> with_reducible rfl)
             simp only [Act.put, List.setIfInBounds_toArray, List.set_cons_zero, List.set_cons_succ])
          | (refine h_skip (i := 9) hHeld rfl (by kernel_rfl) (by kernel_rfl) (by kernel_rfl) ?_ ?_
             · rfl
             simp only [Act.put, List.setIfInBounds_toArray, List.set_cons_zero, List.set_cons_succ])
        clear hHeld
        refine h_done (by kernel_rfl) ?_
        have hbx := Lib.hid (setRow_heap y2 z.heap.size _ #[.int .i64 (R : Nat), .int .i64 (C : Nat), .slice (some ⟨g, 0, none⟩) (R * C) (R * C)] 24 (0, 0) (blk_heap bq))
        have hbz := Lib.hid (below_setRow hY2.out (show W.heap.size ≤ z.heap.size by omega) #[.int .i64 (R : Nat), .int .i64 (C : Nat), .slice (some ⟨g, 0, none⟩) (R * C) (R * C)])
        have hmz := Lib.hid (mat_setBox2 hmK.out (blk_heap bq) #[.int .i64 (R : Nat), .int .i64 (C : Nat), .slice (some ⟨g, 0, none⟩) (R * C) (R * C)])
        go_wp2_with fail
        go_meet
        exact ⟨z.heap.size, g, rfl, rfl, hbx.out, hbz.out, hmz.out⟩
      · rintro e y1 ⟨rfl, hgf, hy1⟩
        have hY1 := Lib.hid (below_step hBd.out hBd.out.size hy1)
        have hgfh := Lib.hid hgf
        refine ⟨_, rfl, hS.out _ hY1.out, ?_⟩
        clear hy1 hgf hal
        generalize z.heap.size = p at *
        have hW1 : W.heap.size ≤ y1.heap.size := hY1.out.size
        have hal : Below W.heap.size W (y1.alloc (.cells #[.int .i64 0, .int .i64 0, .slice none 0 0] 24)) := hY1.out.alloc hW1 _
        refine h_pairN (i := 7) (j := 3) (v := .pointer (some ⟨y1.heap.size, 0, none⟩)) (w1 := y1.alloc (.cells #[.int .i64 0, .int .i64 0, .slice none 0 0] 24)) (kmu.out _ y1 hY1.out hgfh.out) rfl rfl (by kernel_rfl) rfl rfl ?_ ?_ (hS.out _ hal) ?_ ?_
        · go_simp <;> with_reducible rfl
        · go_simp <;> with_reducible rfl
        · have hbq := last_block0 y1 (.cells #[.int .i64 0, .int .i64 0, .slice none 0 0] 24) _ rfl
          have hzl : y1.heap.size < (y1.alloc (.cells #[.int .i64 0, .int .i64 0, .slice none 0 0] 24)).heap.size := by show _ < (y1.heap.push _).size; rw [Array.size_push]; omega
          have halh := Lib.hid hal
          have hbqh := Lib.hid (blk_of hbq)
          have hgfz := Lib.hid (hgfh.out.alloc (.cells #[.int .i64 0, .int .i64 0, .slice none 0 0] 24))
          clear hbq hal
          generalize y1.alloc (.cells #[.int .i64 0, .int .i64 0, .slice none 0 0] 24) = z1 at *
          refine h_call (i := 3) (fun y : World => blk y w.heap.size = some (.cells #[.int .i64 (R : Nat), .int .i64 (K : Nat), .slice a (R * K) cap] 24 (0, 0)) ∧ blk y (w.heap.size + 1) = some (.cells #[.int .i64 (K : Nat), .int .i64 (C : Nat), .slice b (K * C) cap2] 24 (0, 0))) (fun _ h => h) (kmu.out _ z1 halh.out hgfz.out) rfl (by kernel_rfl) rfl ?_ ?_
          · go_simp <;> with_reducible rfl
          rintro e y2 ⟨g, rfl, _, hmg, hy2⟩
          have hY2 := Lib.hid (below_step halh.out halh.out.size hy2)
          have hbq2 := Lib.hid ((blk_below hy2 hzl).trans hbqh.out)
          refine ⟨_, rfl, hS.out _ hY2.out, ?_⟩
          have hmK := Lib.hid hmg.mat
          clear hy2 hmg
          have hHeld : (fun y : World => blk y w.heap.size = some (.cells #[.int .i64 (R : Nat), .int .i64 (K : Nat), .slice a (R * K) cap] 24 (0, 0)) ∧ blk y (w.heap.size + 1) = some (.cells #[.int .i64 (K : Nat), .int .i64 (C : Nat), .slice b (K * C) cap2] 24 (0, 0))) y2 := hS.out _ hY2.out
          first
            | (refine h_run (i := 4) (v := ?_) hHeld rfl (by kernel_rfl) (by kernel_rfl) (by kernel_rfl) ?_ ?_ ?_
               rotate_left
               · rfl
               · (intro x hSx; (try dsimp only at hSx); go_simp <;> with_reducible rfl)
               simp only [Act.put, List.setIfInBounds_toArray, List.set_cons_zero, List.set_cons_succ])
            | (refine h_skip (i := 4) hHeld rfl (by kernel_rfl) (by kernel_rfl) (by kernel_rfl) ?_ ?_
               · rfl
               simp only [Act.put, List.setIfInBounds_toArray, List.set_cons_zero, List.set_cons_succ])
          first
            | (refine h_run (i := 5) (v := ?_) hHeld rfl (by kernel_rfl) (by kernel_rfl) (by kernel_rfl) ?_ ?_ ?_
               rotate_left
               · rfl
               · (intro x hSx; (try dsimp only at hSx); go_simp <;> with_reducible rfl)
               simp only [Act.put, List.setIfInBounds_toArray, List.set_cons_zero, List.set_cons_succ])
            | (refine h_skip (i := 5) hHeld rfl (by kernel_rfl) (by kernel_rfl) (by kernel_rfl) ?_ ?_
               · rfl
               simp only [Act.put, List.setIfInBounds_toArray, List.set_cons_zero, List.set_cons_succ])
          first
            | (refine h_run (i := 6) (v := ?_) hHeld rfl (by kernel_rfl) (by kernel_rfl) (by kernel_rfl) ?_ ?_ ?_
               rotate_left
               · rfl
               · (intro x hSx; (try dsimp only at hSx); go_simp <;> with_reducible rfl)
               simp only [Act.put, List.setIfInBounds_toArray, List.set_cons_zero, List.set_cons_succ])
            | (refine h_skip (i := 6) hHeld rfl (by kernel_rfl) (by kernel_rfl) (by kernel_rfl) ?_ ?_
               · rfl
               simp only [Act.put, List.setIfInBounds_toArray, List.set_cons_zero, List.set_cons_succ])
          clear hHeld
          have bq := hbq2.out
          refine h_write (i := 8) (w' := y2.setRow y1.heap.size #[.int .i64 (R : Nat), .int .i64 (C : Nat), .slice (some ⟨g, 0, none⟩) (R * C) (R * C)]) (fun y : World => blk y w.heap.size = some (.cells #[.int .i64 (R : Nat), .int .i64 (K : Nat), .slice a (R * K) cap] 24 (0, 0)) ∧ blk y (w.heap.size + 1) = some (.cells #[.int .i64 (K : Nat), .int .i64 (C : Nat), .slice b (K * C) cap2] 24 (0, 0))) (fun _ h => h) rfl (by kernel_rfl) rfl ?_ (hS.out _ (below_setRow hY2.out (by omega) _)) ?_
          · go_simp <;> with_reducible rfl
          have hHeld : (fun y : World => blk y w.heap.size = some (.cells #[.int .i64 (R : Nat), .int .i64 (K : Nat), .slice a (R * K) cap] 24 (0, 0)) ∧ blk y (w.heap.size + 1) = some (.cells #[.int .i64 (K : Nat), .int .i64 (C : Nat), .slice b (K * C) cap2] 24 (0, 0))) (y2.setRow y1.heap.size #[.int .i64 (R : Nat), .int .i64 (C : Nat), .slice (some ⟨g, 0, none⟩) (R * C) (R * C)]) := hS.out _ (below_setRow hY2.out (by omega) _)
          first
            | (refine h_run (i := 9) (v := ?_) hHeld rfl (by kernel_rfl) (by kernel_rfl) (by kernel_rfl) ?_ ?_ ?_
               rotate_left
               · rfl
               · (intro x hSx; (try dsimp only at hSx); go_simp <;> with_reducible rfl)
               simp only [Act.put, List.setIfInBounds_toArray, List.set_cons_zero, List.set_cons_succ])
            | (refine h_skip (i := 9) hHeld rfl (by kernel_rfl) (by kernel_rfl) (by kernel_rfl) ?_ ?_
               · rfl
               simp only [Act.put, List.setIfInBounds_toArray, List.set_cons_zero, List.set_cons_succ])
          clear hHeld
          refine h_done (by kernel_rfl) ?_
          have hbx := Lib.hid (setRow_heap y2 y1.heap.size _ #[.int .i64 (R : Nat), .int .i64 (C : Nat), .slice (some ⟨g, 0, none⟩) (R * C) (R * C)] 24 (0, 0) (blk_heap bq))
          have hbz := Lib.hid (below_setRow hY2.out (show W.heap.size ≤ y1.heap.size by omega) #[.int .i64 (R : Nat), .int .i64 (C : Nat), .slice (some ⟨g, 0, none⟩) (R * C) (R * C)])
          have hmz := Lib.hid (mat_setBox2 hmK.out (blk_heap bq) #[.int .i64 (R : Nat), .int .i64 (C : Nat), .slice (some ⟨g, 0, none⟩) (R * C) (R * C)])
          go_wp2_with fail
          go_meet
          exact ⟨y1.heap.size, g, rfl, rfl, hbx.out, hbz.out, hmz.out⟩
        · rintro e y2 ⟨g, rfl, _, hmg, hy2⟩
          have hY2 := Lib.hid (below_step hY1.out hY1.out.size hy2)
          refine ⟨_, rfl, hS.out _ hY2.out, ?_⟩
          have hmK := Lib.hid hmg.mat
          clear hy2 hmg hal
          have hHeld : (fun y : World => blk y w.heap.size = some (.cells #[.int .i64 (R : Nat), .int .i64 (K : Nat), .slice a (R * K) cap] 24 (0, 0)) ∧ blk y (w.heap.size + 1) = some (.cells #[.int .i64 (K : Nat), .int .i64 (C : Nat), .slice b (K * C) cap2] 24 (0, 0))) y2 := hS.out _ hY2.out
          first
            | (refine h_run (i := 4) (v := ?_) hHeld rfl (by kernel_rfl) (by kernel_rfl) (by kernel_rfl) ?_ ?_ ?_
               rotate_left
               · rfl
               · (intro x hSx; (try dsimp only at hSx); go_simp <;> with_reducible rfl)
               simp only [Act.put, List.setIfInBounds_toArray, List.set_cons_zero, List.set_cons_succ])
            | (refine h_skip (i := 4) hHeld rfl (by kernel_rfl) (by kernel_rfl) (by kernel_rfl) ?_ ?_
               · rfl
               simp only [Act.put, List.setIfInBounds_toArray, List.set_cons_zero, List.set_cons_succ])
          first
            | (refine h_run (i := 5) (v := ?_) hHeld rfl (by kernel_rfl) (by kernel_rfl) (by kernel_rfl) ?_ ?_ ?_
               rotate_left
               · rfl
               · (intro x hSx; (try dsimp only at hSx); go_simp <;> with_reducible rfl)
               simp only [Act.put, List.setIfInBounds_toArray, List.set_cons_zero, List.set_cons_succ])
            | (refine h_skip (i := 5) hHeld rfl (by kernel_rfl) (by kernel_rfl) (by kernel_rfl) ?_ ?_
               · rfl
               simp only [Act.put, List.setIfInBounds_toArray, List.set_cons_zero, List.set_cons_succ])
          first
            | (refine h_run (i := 6) (v := ?_) hHeld rfl (by kernel_rfl) (by kernel_rfl) (by kernel_rfl) ?_ ?_ ?_
               rotate_left
               · rfl
               · (intro x hSx; (try dsimp only at hSx); go_simp <;> with_reducible rfl)
               simp only [Act.put, List.setIfInBounds_toArray, List.set_cons_zero, List.set_cons_succ])
            | (refine h_skip (i := 6) hHeld rfl (by kernel_rfl) (by kernel_rfl) (by kernel_rfl) ?_ ?_
               · rfl
               simp only [Act.put, List.setIfInBounds_toArray, List.set_cons_zero, List.set_cons_succ])
          clear hHeld
          have hW2 : W.heap.size ≤ y2.heap.size := hY2.out.size
          have hal : Below W.heap.size W (y2.alloc (.cells #[.int .i64 0, .int .i64 0, .slice none 0 0] 24)) := hY2.out.alloc hW2 _
          refine h_value (i := 7) (v := .pointer (some ⟨y2.heap.size, 0, none⟩)) (w' := y2.alloc (.cells #[.int .i64 0, .int .i64 0, .slice none 0 0] 24)) (fun y : World => blk y w.heap.size = some (.cells #[.int .i64 (R : Nat), .int .i64 (K : Nat), .slice a (R * K) cap] 24 (0, 0)) ∧ blk y (w.heap.size + 1) = some (.cells #[.int .i64 (K : Nat), .int .i64 (C : Nat), .slice b (K * C) cap2] 24 (0, 0))) (fun _ h => h) rfl (by kernel_rfl) rfl ?_ (hS.out _ hal) ?_
          · go_simp <;> with_reducible rfl
          have hbq := last_block0 y2 (.cells #[.int .i64 0, .int .i64 0, .slice none 0 0] 24) _ rfl
          have halh := Lib.hid hal
          have hbqh := Lib.hid (blk_of hbq)
          have hmK2 := Lib.hid (hmK.out.below (below_one y2 (.cells #[.int .i64 0, .int .i64 0, .slice none 0 0] 24)))
          clear hmK
          have hmK := hmK2
          clear hbq hal
          generalize hz1 : y2.alloc (.cells #[.int .i64 0, .int .i64 0, .slice none 0 0] 24) = z1 at *
          clear hz1
          have bq := hbqh.out
          refine h_write (i := 8) (w' := z1.setRow y2.heap.size #[.int .i64 (R : Nat), .int .i64 (C : Nat), .slice (some ⟨g, 0, none⟩) (R * C) (R * C)]) (fun y : World => blk y w.heap.size = some (.cells #[.int .i64 (R : Nat), .int .i64 (K : Nat), .slice a (R * K) cap] 24 (0, 0)) ∧ blk y (w.heap.size + 1) = some (.cells #[.int .i64 (K : Nat), .int .i64 (C : Nat), .slice b (K * C) cap2] 24 (0, 0))) (fun _ h => h) rfl (by kernel_rfl) rfl ?_ (hS.out _ (below_setRow halh.out (by omega) _)) ?_
          · go_simp <;> with_reducible rfl
          have hHeld : (fun y : World => blk y w.heap.size = some (.cells #[.int .i64 (R : Nat), .int .i64 (K : Nat), .slice a (R * K) cap] 24 (0, 0)) ∧ blk y (w.heap.size + 1) = some (.cells #[.int .i64 (K : Nat), .int .i64 (C : Nat), .slice b (K * C) cap2] 24 (0, 0))) (z1.setRow y2.heap.size #[.int .i64 (R : Nat), .int .i64 (C : Nat), .slice (some ⟨g, 0, none⟩) (R * C) (R * C)]) := hS.out _ (below_setRow halh.out (by omega) _)
          first
            | (refine h_run (i := 9) (v := ?_) hHeld rfl (by kernel_rfl) (by kernel_rfl) (by kernel_rfl) ?_ ?_ ?_
               rotate_left
               · rfl
               · (intro x hSx; (try dsimp only at hSx); go_simp <;> with_reducible rfl)
               simp only [Act.put, List.setIfInBounds_toArray, List.set_cons_zero, List.set_cons_succ])
            | (refine h_skip (i := 9) hHeld rfl (by kernel_rfl) (by kernel_rfl) (by kernel_rfl) ?_ ?_
               · rfl
               simp only [Act.put, List.setIfInBounds_toArray, List.set_cons_zero, List.set_cons_succ])
          clear hHeld
          refine h_done (by kernel_rfl) ?_
          have hbx := Lib.hid (setRow_heap z1 y2.heap.size _ #[.int .i64 (R : Nat), .int .i64 (C : Nat), .slice (some ⟨g, 0, none⟩) (R * C) (R * C)] 24 (0, 0) (blk_heap bq))
          have hbz := Lib.hid (below_setRow halh.out (show W.heap.size ≤ y2.heap.size by omega) #[.int .i64 (R : Nat), .int .i64 (C : Nat), .slice (some ⟨g, 0, none⟩) (R * C) (R * C)])
          have hmz := Lib.hid (mat_setBox2 hmK.out (blk_heap bq) #[.int .i64 (R : Nat), .int .i64 (C : Nat), .slice (some ⟨g, 0, none⟩) (R * C) (R * C)])
          go_wp2_with fail
          go_meet
          exact ⟨y2.heap.size, g, rfl, rfl, hbx.out, hbz.out, hmz.out⟩
    case rest =>
      obtain ⟨q, g, rfl, rfl, hq, hBc, hmc⟩ := hcut
      have bq := blk_of hq
      have b0 := (hS.out wc hBc).1
      have hBch := Lib.hid hBc
      have hqh := Lib.hid bq
      have hmch := Lib.hid hmc
      clear hq hBc hmc
      go_wp2_with fail
      refine (l_ref R K a (R * K) cap wc).mono ?_
      rintro e u1 ⟨rfl, hu1⟩
      have hU1 := Lib.hid (below_step hBch.out hBch.out.size hu1)
      have hq1 := Lib.hid ((blk_below hu1 (blk_lt hqh.out)).trans hqh.out)
      have hm1 := Lib.hid (hmch.out.below hu1)
      have kx := x_right R K a (R * K) cap u1
      clear hu1 bq b0
      rw [right_nat R K hR hK] at kx
      go_wp2_with fail
      refine kx.mono ?_
      rintro e u2 ⟨rfl, hu2⟩
      have hU2 := Lib.hid (below_step hU1.out hU1.out.size hu2)
      have hq2 := Lib.hid ((blk_below hu2 (blk_lt hq1.out)).trans hq1.out)
      have hm2 := Lib.hid (hm1.out.below hu2)
      have b12 := (hS.out u2 hU2.out).2
      clear hu2 kx
      go_wp2_with fail
      refine (l_ref K C b (K * C) cap2 u2).mono ?_
      rintro e u3 ⟨rfl, hu3⟩
      have hU3 := Lib.hid (below_step hU2.out hU2.out.size hu3)
      have hq3 := Lib.hid ((blk_below hu3 (blk_lt hq2.out)).trans hq2.out)
      have hm3 := Lib.hid (hm2.out.below hu3)
      have kx := x_right K C b (K * C) cap2 u3
      clear hu3 b12
      rw [right_nat K C hK hC] at kx
      go_wp2_with fail
      refine kx.mono ?_
      rintro e u4 ⟨rfl, hu4⟩
      have hU4 := Lib.hid (below_step hU3.out hU3.out.size hu4)
      have hq4 := Lib.hid ((blk_below hu4 (blk_lt hq3.out)).trans hq3.out)
      have hm4 := Lib.hid (hm3.out.below hu4)
      have hS4 := hS.out u4 hU4.out
      have e1 : u4.cell? ⟨w.heap.size, 1, none⟩ = some (.int .i64 (K : Nat)) := (cell_of_block (blk_heap hS4.1)).trans rfl
      have e0 : u4.cell? ⟨w.heap.size + 1, 0, none⟩ = some (.int .i64 (K : Nat)) := (cell_of_block (blk_heap hS4.2)).trans rfl
      have hne := bne_cast_f K
      clear hu4 kx hS4
      go_upto_region 8 with (fail)
      have hTd := Lib.hid (below_drewN (Below.refl u4.heap.size u4) 1)
      have hTS : Hid (∀ y, Below u4.heap.size u4 y → (blk y q = some (.cells #[.int .i64 (R : Nat), .int .i64 (C : Nat), .slice (some ⟨g, 0, none⟩) (R * C) (R * C)] 24 (0, 0)) ∧ blk y w.heap.size = some (.cells #[.int .i64 (R : Nat), .int .i64 (K : Nat), .slice a (R * K) cap] 24 (0, 0)) ∧ blk y (w.heap.size + 1) = some (.cells #[.int .i64 (K : Nat), .int .i64 (C : Nat), .slice b (K * C) cap2] 24 (0, 0)))) := hide (fun y hy => ⟨(blk_below hy (blk_lt hq4.out)).trans hq4.out, hS.out y (below_step hU4.out hU4.out.size hy)⟩)
      refine h_begin 13 (fun y : World => blk y q = some (.cells #[.int .i64 (R : Nat), .int .i64 (C : Nat), .slice (some ⟨g, 0, none⟩) (R * C) (R * C)] 24 (0, 0)) ∧ blk y w.heap.size = some (.cells #[.int .i64 (R : Nat), .int .i64 (K : Nat), .slice a (R * K) cap] 24 (0, 0)) ∧ blk y (w.heap.size + 1) = some (.cells #[.int .i64 (K : Nat), .int .i64 (C : Nat), .slice b (K * C) cap2] 24 (0, 0))) rfl (by kernel_rfl) (hTS.out _ hTd.out) ?_
      have hHeld : (fun y : World => blk y q = some (.cells #[.int .i64 (R : Nat), .int .i64 (C : Nat), .slice (some ⟨g, 0, none⟩) (R * C) (R * C)] 24 (0, 0)) ∧ blk y w.heap.size = some (.cells #[.int .i64 (R : Nat), .int .i64 (K : Nat), .slice a (R * K) cap] 24 (0, 0)) ∧ blk y (w.heap.size + 1) = some (.cells #[.int .i64 (K : Nat), .int .i64 (C : Nat), .slice b (K * C) cap2] 24 (0, 0))) u4.drew := hTS.out _ hTd.out
      first
        | (refine h_run (i := 0) (v := ?_) hHeld rfl (by kernel_rfl) (by kernel_rfl) (by kernel_rfl) ?_ ?_ ?_
           rotate_left
           · rfl
           · (intro x hSx; (try dsimp only at hSx); go_simp <;> with_reducible rfl)
           simp only [Act.put, List.setIfInBounds_toArray, List.set_cons_zero, List.set_cons_succ])
        | (refine h_skip (i := 0) hHeld rfl (by kernel_rfl) (by kernel_rfl) (by kernel_rfl) ?_ ?_
           · rfl
           simp only [Act.put, List.setIfInBounds_toArray, List.set_cons_zero, List.set_cons_succ])
      first
        | (refine h_run (i := 1) (v := ?_) hHeld rfl (by kernel_rfl) (by kernel_rfl) (by kernel_rfl) ?_ ?_ ?_
           rotate_left
           · rfl
           · (intro x hSx; (try dsimp only at hSx); go_simp <;> with_reducible rfl)
           simp only [Act.put, List.setIfInBounds_toArray, List.set_cons_zero, List.set_cons_succ])
        | (refine h_skip (i := 1) hHeld rfl (by kernel_rfl) (by kernel_rfl) (by kernel_rfl) ?_ ?_
           · rfl
           simp only [Act.put, List.setIfInBounds_toArray, List.set_cons_zero, List.set_cons_succ])
      first
        | (refine h_run (i := 2) (v := ?_) hHeld rfl (by kernel_rfl) (by kernel_rfl) (by kernel_rfl) ?_ ?_ ?_
           rotate_left
           · rfl
           · (intro x hSx; (try dsimp only at hSx); go_simp <;> with_reducible rfl)
           simp only [Act.put, List.setIfInBounds_toArray, List.set_cons_zero, List.set_cons_succ])
        | (refine h_skip (i := 2) hHeld rfl (by kernel_rfl) (by kernel_rfl) (by kernel_rfl) ?_ ?_
           · rfl
           simp only [Act.put, List.setIfInBounds_toArray, List.set_cons_zero, List.set_cons_succ])
      first
        | (refine h_run (i := 3) (v := ?_) hHeld rfl (by kernel_rfl) (by kernel_rfl) (by kernel_rfl) ?_ ?_ ?_
           rotate_left
           · rfl
           · (intro x hSx; (try dsimp only at hSx); go_simp <;> with_reducible rfl)
           simp only [Act.put, List.setIfInBounds_toArray, List.set_cons_zero, List.set_cons_succ])
        | (refine h_skip (i := 3) hHeld rfl (by kernel_rfl) (by kernel_rfl) (by kernel_rfl) ?_ ?_
           · rfl
           simp only [Act.put, List.setIfInBounds_toArray, List.set_cons_zero, List.set_cons_succ])
      first
        | (refine h_run (i := 5) (v := ?_) hHeld rfl (by kernel_rfl) (by kernel_rfl) (by kernel_rfl) ?_ ?_ ?_
           rotate_left
           · rfl
           · (intro x hSx; (try dsimp only at hSx); go_simp <;> with_reducible rfl)
           simp only [Act.put, List.setIfInBounds_toArray, List.set_cons_zero, List.set_cons_succ])
        | (refine h_skip (i := 5) hHeld rfl (by kernel_rfl) (by kernel_rfl) (by kernel_rfl) ?_ ?_
           · rfl
           simp only [Act.put, List.setIfInBounds_toArray, List.set_cons_zero, List.set_cons_succ])
      first
        | (refine h_run (i := 7) (v := ?_) hHeld rfl (by kernel_rfl) (by kernel_rfl) (by kernel_rfl) ?_ ?_ ?_
           rotate_left
           · rfl
           · (intro x hSx; (try dsimp only at hSx); go_simp <;> with_reducible rfl)
           simp only [Act.put, List.setIfInBounds_toArray, List.set_cons_zero, List.set_cons_succ])
        | (refine h_skip (i := 7) hHeld rfl (by kernel_rfl) (by kernel_rfl) (by kernel_rfl) ?_ ?_
           · rfl
           simp only [Act.put, List.setIfInBounds_toArray, List.set_cons_zero, List.set_cons_succ])
      clear hHeld
      refine h_call (i := 4) (fun y : World => blk y q = some (.cells #[.int .i64 (R : Nat), .int .i64 (C : Nat), .slice (some ⟨g, 0, none⟩) (R * C) (R * C)] 24 (0, 0)) ∧ blk y w.heap.size = some (.cells #[.int .i64 (R : Nat), .int .i64 (K : Nat), .slice a (R * K) cap] 24 (0, 0)) ∧ blk y (w.heap.size + 1) = some (.cells #[.int .i64 (K : Nat), .int .i64 (C : Nat), .slice b (K * C) cap2] 24 (0, 0))) (fun _ h => h) (l_ref R C (some ⟨g, 0, none⟩) (R * C) (R * C) u4.drew) rfl (by kernel_rfl) rfl ?_ ?_
      · go_simp <;> with_reducible rfl
      rintro e y1 ⟨rfl, hy1⟩
      have hY1 := Lib.hid (below_step hTd.out hTd.out.size hy1)
      refine ⟨_, rfl, hTS.out _ hY1.out, ?_⟩
      refine h_call (i := 6) (fun y : World => blk y q = some (.cells #[.int .i64 (R : Nat), .int .i64 (C : Nat), .slice (some ⟨g, 0, none⟩) (R * C) (R * C)] 24 (0, 0)) ∧ blk y w.heap.size = some (.cells #[.int .i64 (R : Nat), .int .i64 (K : Nat), .slice a (R * K) cap] 24 (0, 0)) ∧ blk y (w.heap.size + 1) = some (.cells #[.int .i64 (K : Nat), .int .i64 (C : Nat), .slice b (K * C) cap2] 24 (0, 0))) (fun _ h => h) (l_ref R K a (R * K) cap y1) rfl (by kernel_rfl) rfl ?_ ?_
      · go_simp <;> with_reducible rfl
      rintro e y2 ⟨rfl, hy2⟩
      have hY2 := Lib.hid (below_step hY1.out hY1.out.size hy2)
      refine ⟨_, rfl, hTS.out _ hY2.out, ?_⟩
      refine h_call (i := 8) (fun y : World => blk y q = some (.cells #[.int .i64 (R : Nat), .int .i64 (C : Nat), .slice (some ⟨g, 0, none⟩) (R * C) (R * C)] 24 (0, 0)) ∧ blk y w.heap.size = some (.cells #[.int .i64 (R : Nat), .int .i64 (K : Nat), .slice a (R * K) cap] 24 (0, 0)) ∧ blk y (w.heap.size + 1) = some (.cells #[.int .i64 (K : Nat), .int .i64 (C : Nat), .slice b (K * C) cap2] 24 (0, 0))) (fun _ h => h) (l_ref K C b (K * C) cap2 y2) rfl (by kernel_rfl) rfl ?_ ?_
      · go_simp <;> with_reducible rfl
      rintro e y3 ⟨rfl, hy3⟩
      have hY3 := Lib.hid (below_step hY2.out hY2.out.size hy3)
      refine ⟨_, rfl, hTS.out _ hY3.out, ?_⟩
      clear hy1 hy2 hy3
      have hb4 := hBh.out.trans ((below_step hU4.out hU4.out.size hY3.out).mono hwW)
      refine h_call (i := 9) (fun y : World => blk y q = some (.cells #[.int .i64 (R : Nat), .int .i64 (C : Nat), .slice (some ⟨g, 0, none⟩) (R * C) (R * C)] 24 (0, 0)) ∧ blk y w.heap.size = some (.cells #[.int .i64 (R : Nat), .int .i64 (K : Nat), .slice a (R * K) cap] 24 (0, 0)) ∧ blk y (w.heap.size + 1) = some (.cells #[.int .i64 (K : Nat), .int .i64 (C : Nat), .slice b (K * C) cap2] 24 (0, 0))) (fun _ h => h) (x_mul R K C a b cap cap2 F G y3 (hmA.out.below hb4) (hmB.out.below hb4) hbF hbG hR hK hC) rfl (by kernel_rfl) rfl ?_ ?_
      · go_simp <;> with_reducible rfl
      rintro e y4 ⟨s, cs, rfl, hmx, hnil9, hcap9, hy4⟩
      have hY4 := Lib.hid (below_step hY3.out hY3.out.size hy4)
      refine ⟨_, rfl, hTS.out _ hY4.out, ?_⟩
      refine h_call (i := 10) (fun y : World => blk y q = some (.cells #[.int .i64 (R : Nat), .int .i64 (C : Nat), .slice (some ⟨g, 0, none⟩) (R * C) (R * C)] 24 (0, 0)) ∧ blk y w.heap.size = some (.cells #[.int .i64 (R : Nat), .int .i64 (K : Nat), .slice a (R * K) cap] 24 (0, 0)) ∧ blk y (w.heap.size + 1) = some (.cells #[.int .i64 (K : Nat), .int .i64 (C : Nat), .slice b (K * C) cap2] 24 (0, 0))) (fun _ h => h) (x_same R C (some ⟨g, 0, none⟩) s (R * C) cs (R * C) (flF C (mlF F G K)) y4 (hm4.out.below hY4.out).by hmx.by (by have := rc_le hR hC; omega)) rfl (by kernel_rfl) rfl ?_ ?_
      · go_simp <;> with_reducible rfl
      rintro e y5 ⟨rfl, hy5⟩
      have hY5 := Lib.hid (below_step hY4.out hY4.out.size hy5)
      refine ⟨_, rfl, hTS.out _ hY5.out, ?_⟩
      have hHeld : (fun y : World => blk y q = some (.cells #[.int .i64 (R : Nat), .int .i64 (C : Nat), .slice (some ⟨g, 0, none⟩) (R * C) (R * C)] 24 (0, 0)) ∧ blk y w.heap.size = some (.cells #[.int .i64 (R : Nat), .int .i64 (K : Nat), .slice a (R * K) cap] 24 (0, 0)) ∧ blk y (w.heap.size + 1) = some (.cells #[.int .i64 (K : Nat), .int .i64 (C : Nat), .slice b (K * C) cap2] 24 (0, 0))) y5 := hTS.out _ hY5.out
      first
        | (refine h_run (i := 11) (v := ?_) hHeld rfl (by kernel_rfl) (by kernel_rfl) (by kernel_rfl) ?_ ?_ ?_
           rotate_left
           · rfl
           · (intro x hSx; (try dsimp only at hSx); go_simp <;> with_reducible rfl)
           simp only [Act.put, List.setIfInBounds_toArray, List.set_cons_zero, List.set_cons_succ])
        | (refine h_skip (i := 11) hHeld rfl (by kernel_rfl) (by kernel_rfl) (by kernel_rfl) ?_ ?_
           · rfl
           simp only [Act.put, List.setIfInBounds_toArray, List.set_cons_zero, List.set_cons_succ])
      first
        | (refine h_run (i := 12) (v := ?_) hHeld rfl (by kernel_rfl) (by kernel_rfl) (by kernel_rfl) ?_ ?_ ?_
           rotate_left
           · rfl
           · (intro x hSx; (try dsimp only at hSx); go_simp <;> with_reducible rfl)
           simp only [Act.put, List.setIfInBounds_toArray, List.set_cons_zero, List.set_cons_succ])
        | (refine h_skip (i := 12) hHeld rfl (by kernel_rfl) (by kernel_rfl) (by kernel_rfl) ?_ ?_
           · rfl
           simp only [Act.put, List.setIfInBounds_toArray, List.set_cons_zero, List.set_cons_succ])
      clear hHeld
      refine h_done (by kernel_rfl) ?_
      have hfin := Lib.hid (hBh.out.trans ((below_step hU4.out hU4.out.size hY5.out).mono hwW))
      clear hy4 hy5 hmx hb4
      go_wp2_with fail
      go_ret
      exact ⟨rfl, hfin.out⟩
  · have hnf : Hid (ba = false ∨ bb = false ∨ c ≠ r2) := hide (by cases ba <;> cases bb <;> simp_all)
    have kno := Lib.hid (fun p y (_ : Below W.heap.size W y) (_ : IsGf y p) => m_mul_no p r c r2 c2 a b len cap len2 cap2 y (by rw [hba, hbb]; exact hnf.out))
    clear hfit
    go_upto_region 5 with (fail)
    go_cut [5, 6] (fun v5 v6 wx => ∃ q : Nat, v5 = .pointer (some ⟨q, 0, none⟩) ∧ v6 = .int .i64 50 ∧ wx.heap[q]? = some (.cells #[.int .i64 0, .int .i64 0, .slice none 0 0] 24 (0, 0)) ∧ Below W.heap.size W wx)
    case first =>
      have hBd : Hid (Below W.heap.size W w3.drew) := hide (below_drewN hb3h.out 1)
      have hz := zeroM
      have hWd : W.heap.size ≤ w3.drew.heap.size := hBd.out.size
      refine h_begin 10 (fun y : World => blk y w.heap.size = some (.cells #[.int .i64 r, .int .i64 c, .slice a len cap] 24 (0, 0)) ∧ blk y (w.heap.size + 1) = some (.cells #[.int .i64 r2, .int .i64 c2, .slice b len2 cap2] 24 (0, 0))) rfl (by kernel_rfl) (hS.out _ hBd.out) ?_
      have hHeld : (fun y : World => blk y w.heap.size = some (.cells #[.int .i64 r, .int .i64 c, .slice a len cap] 24 (0, 0)) ∧ blk y (w.heap.size + 1) = some (.cells #[.int .i64 r2, .int .i64 c2, .slice b len2 cap2] 24 (0, 0))) w3.drew := hS.out _ hBd.out
      first
        | (refine h_run (i := 1) (v := ?_) hHeld rfl (by kernel_rfl) (by kernel_rfl) (by kernel_rfl) ?_ ?_ ?_
           rotate_left
           · rfl
           · (intro x hSx; (try dsimp only at hSx); go_simp <;> with_reducible rfl)
           simp only [Act.put, List.setIfInBounds_toArray, List.set_cons_zero, List.set_cons_succ])
        | (refine h_skip (i := 1) hHeld rfl (by kernel_rfl) (by kernel_rfl) (by kernel_rfl) ?_ ?_
           · rfl
           simp only [Act.put, List.setIfInBounds_toArray, List.set_cons_zero, List.set_cons_succ])
      first
        | (refine h_run (i := 2) (v := ?_) hHeld rfl (by kernel_rfl) (by kernel_rfl) (by kernel_rfl) ?_ ?_ ?_
           rotate_left
           · rfl
           · (intro x hSx; (try dsimp only at hSx); go_simp <;> with_reducible rfl)
           simp only [Act.put, List.setIfInBounds_toArray, List.set_cons_zero, List.set_cons_succ])
        | (refine h_skip (i := 2) hHeld rfl (by kernel_rfl) (by kernel_rfl) (by kernel_rfl) ?_ ?_
           · rfl
           simp only [Act.put, List.setIfInBounds_toArray, List.set_cons_zero, List.set_cons_succ])
      clear hHeld
      generalize w3.drew = z at *
      have hal : Below W.heap.size W (z.alloc (.cells #[.int .i64 0, .int .i64 0, .slice none 0 0] 24)) := hBd.out.alloc hWd _
      refine h_pairN (i := 7) (j := 0) (v := .pointer (some ⟨z.heap.size, 0, none⟩)) (w1 := z.alloc (.cells #[.int .i64 0, .int .i64 0, .slice none 0 0] 24)) (gf_new_below z) rfl rfl (by kernel_rfl) rfl rfl ?_ ?_ (hS.out _ hal) ?_ ?_
      · go_simp <;> with_reducible rfl
      · go_simp <;> with_reducible rfl
      · have hbq := last_block0 z (.cells #[.int .i64 0, .int .i64 0, .slice none 0 0] 24) _ rfl
        have hzl : z.heap.size < (z.alloc (.cells #[.int .i64 0, .int .i64 0, .slice none 0 0] 24)).heap.size := by show _ < (z.heap.push _).size; rw [Array.size_push]; omega
        have halh := Lib.hid hal
        have hbqh := Lib.hid (blk_of hbq)
        clear hbq hal
        generalize z.alloc (.cells #[.int .i64 0, .int .i64 0, .slice none 0 0] 24) = z1 at *
        refine h_call (i := 0) (fun y : World => blk y w.heap.size = some (.cells #[.int .i64 r, .int .i64 c, .slice a len cap] 24 (0, 0)) ∧ blk y (w.heap.size + 1) = some (.cells #[.int .i64 r2, .int .i64 c2, .slice b len2 cap2] 24 (0, 0))) (fun _ h => h) (gf_new_below z1) rfl (by kernel_rfl) rfl ?_ ?_
        · go_simp <;> with_reducible rfl
        rintro e y1 ⟨rfl, hgf, hy1⟩
        have hY1 := Lib.hid (below_step halh.out halh.out.size hy1)
        have hgfh := Lib.hid hgf
        have hbq1 := Lib.hid ((blk_below hy1 hzl).trans hbqh.out)
        have hzl1 : z.heap.size < y1.heap.size := by have := hy1.size; omega
        refine ⟨_, rfl, hS.out _ hY1.out, ?_⟩
        clear hy1 hgf
        generalize z1.heap.size = p at *
        refine h_call (i := 3) (fun y : World => blk y w.heap.size = some (.cells #[.int .i64 r, .int .i64 c, .slice a len cap] 24 (0, 0)) ∧ blk y (w.heap.size + 1) = some (.cells #[.int .i64 r2, .int .i64 c2, .slice b len2 cap2] 24 (0, 0))) (fun _ h => h) (kno.out _ y1 hY1.out hgfh.out) rfl (by kernel_rfl) rfl ?_ ?_
        · go_simp <;> with_reducible rfl
        rintro e y2 ⟨rfl, hy2⟩
        have hY2 := Lib.hid (below_step hY1.out hY1.out.size hy2)
        have hbq2 := Lib.hid ((blk_below hy2 hzl1).trans hbq1.out)
        refine ⟨_, rfl, hS.out _ hY2.out, ?_⟩
        clear hy2
        have hHeld : (fun y : World => blk y w.heap.size = some (.cells #[.int .i64 r, .int .i64 c, .slice a len cap] 24 (0, 0)) ∧ blk y (w.heap.size + 1) = some (.cells #[.int .i64 r2, .int .i64 c2, .slice b len2 cap2] 24 (0, 0))) y2 := hS.out _ hY2.out
        first
          | (refine h_run (i := 4) (v := ?_) hHeld rfl (by kernel_rfl) (by kernel_rfl) (by kernel_rfl) ?_ ?_ ?_
             rotate_left
             · rfl
             · (intro x hSx; (try dsimp only at hSx); go_simp <;> with_reducible rfl)
             simp only [Act.put, List.setIfInBounds_toArray, List.set_cons_zero, List.set_cons_succ])
          | (refine h_skip (i := 4) hHeld rfl (by kernel_rfl) (by kernel_rfl) (by kernel_rfl) ?_ ?_
             · rfl
             simp only [Act.put, List.setIfInBounds_toArray, List.set_cons_zero, List.set_cons_succ])
        first
          | (refine h_run (i := 5) (v := ?_) hHeld rfl (by kernel_rfl) (by kernel_rfl) (by kernel_rfl) ?_ ?_ ?_
             rotate_left
             · rfl
             · (intro x hSx; (try dsimp only at hSx); go_simp <;> with_reducible rfl)
             simp only [Act.put, List.setIfInBounds_toArray, List.set_cons_zero, List.set_cons_succ])
          | (refine h_skip (i := 5) hHeld rfl (by kernel_rfl) (by kernel_rfl) (by kernel_rfl) ?_ ?_
             · rfl
             simp only [Act.put, List.setIfInBounds_toArray, List.set_cons_zero, List.set_cons_succ])
        first
          | (refine h_run (i := 6) (v := ?_) hHeld rfl (by kernel_rfl) (by kernel_rfl) (by kernel_rfl) ?_ ?_ ?_
             rotate_left
             · rfl
             · (intro x hSx; (try dsimp only at hSx); go_simp <;> with_reducible rfl)
             simp only [Act.put, List.setIfInBounds_toArray, List.set_cons_zero, List.set_cons_succ])
          | (refine h_skip (i := 6) hHeld rfl (by kernel_rfl) (by kernel_rfl) (by kernel_rfl) ?_ ?_
             · rfl
             simp only [Act.put, List.setIfInBounds_toArray, List.set_cons_zero, List.set_cons_succ])
        clear hHeld
        have bq := hbq2.out
        refine h_write (i := 8) (w' := y2.setRow z.heap.size #[.int .i64 0, .int .i64 0, .slice none 0 0]) (fun y : World => blk y w.heap.size = some (.cells #[.int .i64 r, .int .i64 c, .slice a len cap] 24 (0, 0)) ∧ blk y (w.heap.size + 1) = some (.cells #[.int .i64 r2, .int .i64 c2, .slice b len2 cap2] 24 (0, 0))) (fun _ h => h) rfl (by kernel_rfl) rfl ?_ (hS.out _ (below_setRow hY2.out (by omega) _)) ?_
        · go_simp <;> with_reducible rfl
        have hHeld : (fun y : World => blk y w.heap.size = some (.cells #[.int .i64 r, .int .i64 c, .slice a len cap] 24 (0, 0)) ∧ blk y (w.heap.size + 1) = some (.cells #[.int .i64 r2, .int .i64 c2, .slice b len2 cap2] 24 (0, 0))) (y2.setRow z.heap.size #[.int .i64 0, .int .i64 0, .slice none 0 0]) := hS.out _ (below_setRow hY2.out (by omega) _)
        first
          | (refine h_run (i := 9) (v := ?_) hHeld rfl (by kernel_rfl) (by kernel_rfl) (by kernel_rfl) ?_ ?_ ?_
             rotate_left
             · rfl
             · (intro x hSx; (try dsimp only at hSx); go_simp <;> with_reducible rfl)
             simp only [Act.put, List.setIfInBounds_toArray, List.set_cons_zero, List.set_cons_succ])
          | (refine h_skip (i := 9) hHeld rfl (by kernel_rfl) (by kernel_rfl) (by kernel_rfl) ?_ ?_
             · rfl
             simp only [Act.put, List.setIfInBounds_toArray, List.set_cons_zero, List.set_cons_succ])
        clear hHeld
        refine h_done (by kernel_rfl) ?_
        have hbx := Lib.hid (setRow_heap y2 z.heap.size _ #[.int .i64 0, .int .i64 0, .slice none 0 0] 24 (0, 0) (blk_heap bq))
        have hbz := Lib.hid (below_setRow hY2.out (show W.heap.size ≤ z.heap.size by omega) #[.int .i64 0, .int .i64 0, .slice none 0 0])

        go_wp2_with fail
        go_meet
        exact ⟨z.heap.size, rfl, rfl, hbx.out, hbz.out⟩
      · rintro e y1 ⟨rfl, hgf, hy1⟩
        have hY1 := Lib.hid (below_step hBd.out hBd.out.size hy1)
        have hgfh := Lib.hid hgf
        refine ⟨_, rfl, hS.out _ hY1.out, ?_⟩
        clear hy1 hgf hal
        generalize z.heap.size = p at *
        have hW1 : W.heap.size ≤ y1.heap.size := hY1.out.size
        have hal : Below W.heap.size W (y1.alloc (.cells #[.int .i64 0, .int .i64 0, .slice none 0 0] 24)) := hY1.out.alloc hW1 _
        refine h_pairN (i := 7) (j := 3) (v := .pointer (some ⟨y1.heap.size, 0, none⟩)) (w1 := y1.alloc (.cells #[.int .i64 0, .int .i64 0, .slice none 0 0] 24)) (kno.out _ y1 hY1.out hgfh.out) rfl rfl (by kernel_rfl) rfl rfl ?_ ?_ (hS.out _ hal) ?_ ?_
        · go_simp <;> with_reducible rfl
        · go_simp <;> with_reducible rfl
        · have hbq := last_block0 y1 (.cells #[.int .i64 0, .int .i64 0, .slice none 0 0] 24) _ rfl
          have hzl : y1.heap.size < (y1.alloc (.cells #[.int .i64 0, .int .i64 0, .slice none 0 0] 24)).heap.size := by show _ < (y1.heap.push _).size; rw [Array.size_push]; omega
          have halh := Lib.hid hal
          have hbqh := Lib.hid (blk_of hbq)
          have hgfz := Lib.hid (hgfh.out.alloc (.cells #[.int .i64 0, .int .i64 0, .slice none 0 0] 24))
          clear hbq hal
          generalize y1.alloc (.cells #[.int .i64 0, .int .i64 0, .slice none 0 0] 24) = z1 at *
          refine h_call (i := 3) (fun y : World => blk y w.heap.size = some (.cells #[.int .i64 r, .int .i64 c, .slice a len cap] 24 (0, 0)) ∧ blk y (w.heap.size + 1) = some (.cells #[.int .i64 r2, .int .i64 c2, .slice b len2 cap2] 24 (0, 0))) (fun _ h => h) (kno.out _ z1 halh.out hgfz.out) rfl (by kernel_rfl) rfl ?_ ?_
          · go_simp <;> with_reducible rfl
          rintro e y2 ⟨rfl, hy2⟩
          have hY2 := Lib.hid (below_step halh.out halh.out.size hy2)
          have hbq2 := Lib.hid ((blk_below hy2 hzl).trans hbqh.out)
          refine ⟨_, rfl, hS.out _ hY2.out, ?_⟩
          clear hy2
          have hHeld : (fun y : World => blk y w.heap.size = some (.cells #[.int .i64 r, .int .i64 c, .slice a len cap] 24 (0, 0)) ∧ blk y (w.heap.size + 1) = some (.cells #[.int .i64 r2, .int .i64 c2, .slice b len2 cap2] 24 (0, 0))) y2 := hS.out _ hY2.out
          first
            | (refine h_run (i := 4) (v := ?_) hHeld rfl (by kernel_rfl) (by kernel_rfl) (by kernel_rfl) ?_ ?_ ?_
               rotate_left
               · rfl
               · (intro x hSx; (try dsimp only at hSx); go_simp <;> with_reducible rfl)
               simp only [Act.put, List.setIfInBounds_toArray, List.set_cons_zero, List.set_cons_succ])
            | (refine h_skip (i := 4) hHeld rfl (by kernel_rfl) (by kernel_rfl) (by kernel_rfl) ?_ ?_
               · rfl
               simp only [Act.put, List.setIfInBounds_toArray, List.set_cons_zero, List.set_cons_succ])
          first
            | (refine h_run (i := 5) (v := ?_) hHeld rfl (by kernel_rfl) (by kernel_rfl) (by kernel_rfl) ?_ ?_ ?_
               rotate_left
               · rfl
               · (intro x hSx; (try dsimp only at hSx); go_simp <;> with_reducible rfl)
               simp only [Act.put, List.setIfInBounds_toArray, List.set_cons_zero, List.set_cons_succ])
            | (refine h_skip (i := 5) hHeld rfl (by kernel_rfl) (by kernel_rfl) (by kernel_rfl) ?_ ?_
               · rfl
               simp only [Act.put, List.setIfInBounds_toArray, List.set_cons_zero, List.set_cons_succ])
          first
            | (refine h_run (i := 6) (v := ?_) hHeld rfl (by kernel_rfl) (by kernel_rfl) (by kernel_rfl) ?_ ?_ ?_
               rotate_left
               · rfl
               · (intro x hSx; (try dsimp only at hSx); go_simp <;> with_reducible rfl)
               simp only [Act.put, List.setIfInBounds_toArray, List.set_cons_zero, List.set_cons_succ])
            | (refine h_skip (i := 6) hHeld rfl (by kernel_rfl) (by kernel_rfl) (by kernel_rfl) ?_ ?_
               · rfl
               simp only [Act.put, List.setIfInBounds_toArray, List.set_cons_zero, List.set_cons_succ])
          clear hHeld
          have bq := hbq2.out
          refine h_write (i := 8) (w' := y2.setRow y1.heap.size #[.int .i64 0, .int .i64 0, .slice none 0 0]) (fun y : World => blk y w.heap.size = some (.cells #[.int .i64 r, .int .i64 c, .slice a len cap] 24 (0, 0)) ∧ blk y (w.heap.size + 1) = some (.cells #[.int .i64 r2, .int .i64 c2, .slice b len2 cap2] 24 (0, 0))) (fun _ h => h) rfl (by kernel_rfl) rfl ?_ (hS.out _ (below_setRow hY2.out (by omega) _)) ?_
          · go_simp <;> with_reducible rfl
          have hHeld : (fun y : World => blk y w.heap.size = some (.cells #[.int .i64 r, .int .i64 c, .slice a len cap] 24 (0, 0)) ∧ blk y (w.heap.size + 1) = some (.cells #[.int .i64 r2, .int .i64 c2, .slice b len2 cap2] 24 (0, 0))) (y2.setRow y1.heap.size #[.int .i64 0, .int .i64 0, .slice none 0 0]) := hS.out _ (below_setRow hY2.out (by omega) _)
          first
            | (refine h_run (i := 9) (v := ?_) hHeld rfl (by kernel_rfl) (by kernel_rfl) (by kernel_rfl) ?_ ?_ ?_
               rotate_left
               · rfl
               · (intro x hSx; (try dsimp only at hSx); go_simp <;> with_reducible rfl)
               simp only [Act.put, List.setIfInBounds_toArray, List.set_cons_zero, List.set_cons_succ])
            | (refine h_skip (i := 9) hHeld rfl (by kernel_rfl) (by kernel_rfl) (by kernel_rfl) ?_ ?_
               · rfl
               simp only [Act.put, List.setIfInBounds_toArray, List.set_cons_zero, List.set_cons_succ])
          clear hHeld
          refine h_done (by kernel_rfl) ?_
          have hbx := Lib.hid (setRow_heap y2 y1.heap.size _ #[.int .i64 0, .int .i64 0, .slice none 0 0] 24 (0, 0) (blk_heap bq))
          have hbz := Lib.hid (below_setRow hY2.out (show W.heap.size ≤ y1.heap.size by omega) #[.int .i64 0, .int .i64 0, .slice none 0 0])

          go_wp2_with fail
          go_meet
          exact ⟨y1.heap.size, rfl, rfl, hbx.out, hbz.out⟩
        · rintro e y2 ⟨rfl, hy2⟩
          have hY2 := Lib.hid (below_step hY1.out hY1.out.size hy2)
          refine ⟨_, rfl, hS.out _ hY2.out, ?_⟩
          clear hy2 hal
          have hHeld : (fun y : World => blk y w.heap.size = some (.cells #[.int .i64 r, .int .i64 c, .slice a len cap] 24 (0, 0)) ∧ blk y (w.heap.size + 1) = some (.cells #[.int .i64 r2, .int .i64 c2, .slice b len2 cap2] 24 (0, 0))) y2 := hS.out _ hY2.out
          first
            | (refine h_run (i := 4) (v := ?_) hHeld rfl (by kernel_rfl) (by kernel_rfl) (by kernel_rfl) ?_ ?_ ?_
               rotate_left
               · rfl
               · (intro x hSx; (try dsimp only at hSx); go_simp <;> with_reducible rfl)
               simp only [Act.put, List.setIfInBounds_toArray, List.set_cons_zero, List.set_cons_succ])
            | (refine h_skip (i := 4) hHeld rfl (by kernel_rfl) (by kernel_rfl) (by kernel_rfl) ?_ ?_
               · rfl
               simp only [Act.put, List.setIfInBounds_toArray, List.set_cons_zero, List.set_cons_succ])
          first
            | (refine h_run (i := 5) (v := ?_) hHeld rfl (by kernel_rfl) (by kernel_rfl) (by kernel_rfl) ?_ ?_ ?_
               rotate_left
               · rfl
               · (intro x hSx; (try dsimp only at hSx); go_simp <;> with_reducible rfl)
               simp only [Act.put, List.setIfInBounds_toArray, List.set_cons_zero, List.set_cons_succ])
            | (refine h_skip (i := 5) hHeld rfl (by kernel_rfl) (by kernel_rfl) (by kernel_rfl) ?_ ?_
               · rfl
               simp only [Act.put, List.setIfInBounds_toArray, List.set_cons_zero, List.set_cons_succ])
          first
            | (refine h_run (i := 6) (v := ?_) hHeld rfl (by kernel_rfl) (by kernel_rfl) (by kernel_rfl) ?_ ?_ ?_
               rotate_left
               · rfl
               · (intro x hSx; (try dsimp only at hSx); go_simp <;> with_reducible rfl)
               simp only [Act.put, List.setIfInBounds_toArray, List.set_cons_zero, List.set_cons_succ])
            | (refine h_skip (i := 6) hHeld rfl (by kernel_rfl) (by kernel_rfl) (by kernel_rfl) ?_ ?_
               · rfl
               simp only [Act.put, List.setIfInBounds_toArray, List.set_cons_zero, List.set_cons_succ])
          clear hHeld
          have hW2 : W.heap.size ≤ y2.heap.size := hY2.out.size
          have hal : Below W.heap.size W (y2.alloc (.cells #[.int .i64 0, .int .i64 0, .slice none 0 0] 24)) := hY2.out.alloc hW2 _
          refine h_value (i := 7) (v := .pointer (some ⟨y2.heap.size, 0, none⟩)) (w' := y2.alloc (.cells #[.int .i64 0, .int .i64 0, .slice none 0 0] 24)) (fun y : World => blk y w.heap.size = some (.cells #[.int .i64 r, .int .i64 c, .slice a len cap] 24 (0, 0)) ∧ blk y (w.heap.size + 1) = some (.cells #[.int .i64 r2, .int .i64 c2, .slice b len2 cap2] 24 (0, 0))) (fun _ h => h) rfl (by kernel_rfl) rfl ?_ (hS.out _ hal) ?_
          · go_simp <;> with_reducible rfl
          have hbq := last_block0 y2 (.cells #[.int .i64 0, .int .i64 0, .slice none 0 0] 24) _ rfl
          have halh := Lib.hid hal
          have hbqh := Lib.hid (blk_of hbq)
          clear hbq hal
          generalize hz1 : y2.alloc (.cells #[.int .i64 0, .int .i64 0, .slice none 0 0] 24) = z1 at *
          clear hz1
          have bq := hbqh.out
          refine h_write (i := 8) (w' := z1.setRow y2.heap.size #[.int .i64 0, .int .i64 0, .slice none 0 0]) (fun y : World => blk y w.heap.size = some (.cells #[.int .i64 r, .int .i64 c, .slice a len cap] 24 (0, 0)) ∧ blk y (w.heap.size + 1) = some (.cells #[.int .i64 r2, .int .i64 c2, .slice b len2 cap2] 24 (0, 0))) (fun _ h => h) rfl (by kernel_rfl) rfl ?_ (hS.out _ (below_setRow halh.out (by omega) _)) ?_
          · go_simp <;> with_reducible rfl
          have hHeld : (fun y : World => blk y w.heap.size = some (.cells #[.int .i64 r, .int .i64 c, .slice a len cap] 24 (0, 0)) ∧ blk y (w.heap.size + 1) = some (.cells #[.int .i64 r2, .int .i64 c2, .slice b len2 cap2] 24 (0, 0))) (z1.setRow y2.heap.size #[.int .i64 0, .int .i64 0, .slice none 0 0]) := hS.out _ (below_setRow halh.out (by omega) _)
          first
            | (refine h_run (i := 9) (v := ?_) hHeld rfl (by kernel_rfl) (by kernel_rfl) (by kernel_rfl) ?_ ?_ ?_
               rotate_left
               · rfl
               · (intro x hSx; (try dsimp only at hSx); go_simp <;> with_reducible rfl)
               simp only [Act.put, List.setIfInBounds_toArray, List.set_cons_zero, List.set_cons_succ])
            | (refine h_skip (i := 9) hHeld rfl (by kernel_rfl) (by kernel_rfl) (by kernel_rfl) ?_ ?_
               · rfl
               simp only [Act.put, List.setIfInBounds_toArray, List.set_cons_zero, List.set_cons_succ])
          clear hHeld
          refine h_done (by kernel_rfl) ?_
          have hbx := Lib.hid (setRow_heap z1 y2.heap.size _ #[.int .i64 0, .int .i64 0, .slice none 0 0] 24 (0, 0) (blk_heap bq))
          have hbz := Lib.hid (below_setRow halh.out (show W.heap.size ≤ y2.heap.size by omega) #[.int .i64 0, .int .i64 0, .slice none 0 0])

          go_wp2_with fail
          go_meet
          exact ⟨y2.heap.size, rfl, rfl, hbx.out, hbz.out⟩
    case rest =>
      obtain ⟨q, rfl, rfl, hq, hBc⟩ := hcut
      have bq := blk_of hq
      have b0 := (hS.out wc hBc).1
      have hBch := Lib.hid hBc
      have hqh := Lib.hid bq
      clear hq hBc
      go_wp2_with fail
      refine (l_ref r c a len cap wc).mono ?_
      rintro e u1 ⟨rfl, hu1⟩
      have hU1 := Lib.hid (below_step hBch.out hBch.out.size hu1)
      have bq1 := (blk_below hu1 (blk_lt hqh.out)).trans hqh.out
      have hqh1 := Lib.hid bq1
      have kx := x_right r c a len cap u1
      clear hu1 bq b0
      rw [hba] at kx
      go_wp2_with fail
      refine kx.mono ?_
      rintro e u2 ⟨rfl, hu2⟩
      have hU2 := Lib.hid (below_step hU1.out hU1.out.size hu2)
      have bq2 := (blk_below hu2 (blk_lt hqh1.out)).trans hqh1.out
      have hqh2 := Lib.hid bq2
      have b12 := (hS.out u2 hU2.out).2
      clear hu2 bq1 kx
      cases ba with
      | false =>
        go_wp2_with fail
        refine (l_none u2).mono ?_
        rintro e u3 ⟨rfl, hu3⟩
        have hfin := Lib.hid (hBh.out.trans ((below_step hU2.out hU2.out.size hu3).mono hwW))
        clear hu3
        go_wp2_with fail
        go_ret
        exact ⟨rfl, hfin.out⟩
      | true =>
        go_wp2_with fail
        refine (l_ref r2 c2 b len2 cap2 u2).mono ?_
        rintro e u3 ⟨rfl, hu3⟩
        have hU3 := Lib.hid (below_step hU2.out hU2.out.size hu3)
        have bq3 := (blk_below hu3 (blk_lt hqh2.out)).trans hqh2.out
        have hqh3 := Lib.hid bq3
        have kx := x_right r2 c2 b len2 cap2 u3
        clear hu3 bq2 b12
        rw [hbb] at kx
        go_wp2_with fail
        refine kx.mono ?_
        rintro e u4 ⟨rfl, hu4⟩
        have hU4 := Lib.hid (below_step hU3.out hU3.out.size hu4)
        have bq4 := (blk_below hu4 (blk_lt hqh3.out)).trans hqh3.out
        have hS4 := hS.out u4 hU4.out
        have e1 : u4.cell? ⟨w.heap.size, 1, none⟩ = some (.int .i64 c) := (cell_of_block (blk_heap hS4.1)).trans rfl
        have e0 : u4.cell? ⟨w.heap.size + 1, 0, none⟩ = some (.int .i64 r2) := (cell_of_block (blk_heap hS4.2)).trans rfl
        clear hu4 bq3 kx hS4
        cases bb with
        | false =>
          go_wp2_with fail
          refine (l_none u4).mono ?_
          rintro e u5 ⟨rfl, hu5⟩
          have hfin := Lib.hid (hBh.out.trans ((below_step hU4.out hU4.out.size hu5).mono hwW))
          clear hu5
          go_wp2_with fail
          go_ret
          exact ⟨rfl, hfin.out⟩
        | true =>
          have hne := beq_i ((hnf.out.resolve_left (by simp)).resolve_left (by simp))
          go_wp2_with fail
          refine (l_none u4).mono ?_
          rintro e u5 ⟨rfl, hu5⟩
          have hfin := Lib.hid (hBh.out.trans ((below_step hU4.out hU4.out.size hu5).mono hwW))
          clear hu5
          go_wp2_with fail
          go_ret
          exact ⟨rfl, hfin.out⟩
end Go.Proofs.Ytkcalgolanpjaaa

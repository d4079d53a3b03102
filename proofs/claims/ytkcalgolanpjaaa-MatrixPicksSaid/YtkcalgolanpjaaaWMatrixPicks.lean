/- The walk of the law MatrixPicks: it answers true for every input. -/
import Derived.Test.YtkcalgolanpjaaaMat18
import Derived.Test.YtkcalgolanpjaaaMatPair
namespace Go.Proofs.Ytkcalgolanpjaaa
open Go.RowKit
/-- are the rows ahead of i there? -/
def okB (b : Bool) (r : Int) (J : Nat → Int) : Nat → Bool
  | 0 => b
  | i + 1 => okB b r J i && (decide (0 ≤ J i) && decide (J i < r))
theorem okB_next (b : Bool) (r : Int) (J : Nat → Int) (i : Nat) : okB b r J (i + 1) = (okB b r J i && (decide (0 ≤ J i) && decide (J i < r))) := rfl
theorem okB_all (b : Bool) (r : Int) (J : Nat → Int) (n : Nat) : okB b r J n = true ↔ (b = true ∧ ∀ i, i < n → 0 ≤ J i ∧ J i < r) := by
  induction n with
  | zero => exact ⟨fun h => ⟨h, fun i hi => absurd hi (by omega)⟩, fun h => h.1⟩
  | succ n ih =>
    rw [okB_next]
    constructor
    · intro h
      simp only [Bool.and_eq_true, decide_eq_true_eq] at h
      obtain ⟨h1, h2⟩ := ih.1 h.1
      refine ⟨h1, fun i hi => ?_⟩
      by_cases e : i = n
      · subst e; exact h.2
      · exact h2 i (by omega)
    · intro ⟨h1, h2⟩
      rw [ih.2 ⟨h1, fun i hi => h2 i (by omega)⟩]
      simp only [Bool.true_and, Bool.and_eq_true, decide_eq_true_eq]
      exact h2 n (by omega)
theorem zat_of {w : World} {a : Option Addr} {l : List Int} (h : SlZ .i64 w a l) : ZAt w .i64 a l.length (fun i => l.getD i 0) := fun i hi => by
  obtain ⟨b, off, hs, hc⟩ := h i (l.getD i 0) (by rw [List.getD_eq_getElem?_getD, List.getElem?_eq_getElem hi]; rfl)
  exact ⟨b, off, hs, hc⟩
attribute [local irreducible] gexp gtbl glog rmul rinv rpow zexp mixF blk wLoad wLoadRes loadAns wStore wStoreRes storeAns Plain flF BRow MRow IsGf MAt By pkF okB
attribute [local go_sem ↓] ld_m0 ld_x0 sto_m0 sto_x0
attribute [local go_sem] ld_m ld_x sto_m sto_x loadAns_some storeAns_some mx_size mx_plain blk_alloc_if blk_setRow_if blk_drew_at blk_drewN_at rowPut_some blk_setCell_if cellPut_some
set_option maxRecDepth 100000 in
set_option maxHeartbeats 8000000 in
theorem matrixPicks_walk (v0 : Value) (a1 : Option Addr) (len1 cap1 : Nat) (z1 : List Int) (w : World) (w0 : IsMx w v0) (w1 : IsRow .i64 w a1 len1 cap1 z1) :
    Calls Try.prog 6 #[v0, .slice a1 len1 cap1] w fun e w' => e = .returned (.bool true) ∧ Below w.heap.size w w' := by
  obtain ⟨r, c, a, len, cap, zs, rfl, _, _, hrow⟩ := w0
  obtain ⟨l, hll, hl1, hl2, _, hsl⟩ := isRow_int w1
  subst hll
  have hz1 := zat_of hsl
  unfold maxLen at hl2
  obtain ⟨J, hJe⟩ : ∃ J : Nat → Int, (fun i => l.getD i 0) = J := ⟨_, rfl⟩
  rw [hJe] at hz1
  obtain ⟨m, hme⟩ : ∃ m, l.length = m := ⟨_, rfl⟩
  rw [hme] at hz1 hl1 w1 ⊢
  have hz1h := Lib.hid hz1
  have hzM := zeroM
  have hzx := zeroX
  have hB := below_one w (.cells #[.int .i64 r, .int .i64 c, .slice a len cap] 24)
  have h0 := last_block0 w (.cells #[.int .i64 r, .int .i64 c, .slice a len cap] 24) _ rfl
  have hsz : w.heap.size < (w.alloc (.cells #[.int .i64 r, .int .i64 c, .slice a len cap] 24)).heap.size := by show _ < (w.heap.push _).size; rw [Array.size_push]; omega
  have hrx := Lib.hid (fun h => mx_right (r := r) (c := c) hrow h)
  obtain ⟨f, hby, _, hnil, _, _⟩ := mx_bytes hrow
  have hbyh := Lib.hid hby
  have hnilh := Lib.hid hnil
  clear hrow w1 hsl hJe hme hz1 hby hnil
  go_enter Try.func6, Try.ntmps6
  go_upto_region 1 with (fail)
  generalize World.alloc w _ = W at *
  have h0h := Lib.hid (blk_of h0)
  have hBh := Lib.hid hB
  clear h0 hB
  have hwW : w.heap.size ≤ W.heap.size := by omega
  have hfin : Hid (∀ y, Below W.heap.size W y → Below w.heap.size w y) := hide (fun y hy => hBh.out.trans (hy.mono hBh.out.size))
  have hS : Hid (∀ y, Below W.heap.size W y → blk y w.heap.size = some (.cells #[.int .i64 r, .int .i64 c, .slice a len cap] 24 (0, 0))) := hide (fun y hy => (blk_below hy hsz).trans h0h.out)
  have kW_W : Hid (Below W.heap.size W W) := hide (Below.refl _ _)
  go_wp2_with fail
  refine (m_awake W).mono ?_
  rintro e y1 ⟨rfl, hy⟩
  have kW_y1 := Lib.hid (below_step kW_W.out kW_W.out.size hy)
  clear hy
  have bm := hS.out _ kW_y1.out
  have c2 : y1.cell? ⟨w.heap.size, 2, none⟩ = some (.slice a len cap) := (cell_of_block (blk_heap bm)).trans rfl
  by_cases hbig : 3000 < len
  · have g1 : decide ((3000 : Int) < (len : Int)) = true := decide_eq_true (by omega)
    have g2 : decide (3000 < len) = true := decide_eq_true hbig
    have hlast := Lib.hid (hfin.out _ kW_y1.out)
    go_wp2_with fail
    go_ret
    exact ⟨rfl, hlast.out⟩
  have g1 : decide ((3000 : Int) < (len : Int)) = false := decide_eq_false (by omega)
  have g2 : decide (3000 < len) = false := decide_eq_false hbig
  by_cases hbm : 300 < m
  · have g3 : decide ((300 : Int) < (m : Int)) = true := decide_eq_true (by omega)
    have g4 : decide (300 < m) = true := decide_eq_true hbm
    have hlast := Lib.hid (hfin.out _ kW_y1.out)
    go_wp2_with fail
    go_ret
    exact ⟨rfl, hlast.out⟩
  have g3 : decide ((300 : Int) < (m : Int)) = false := decide_eq_false (by omega)
  have g4 : decide (300 < m) = false := decide_eq_false hbm
  obtain ⟨ba, hba⟩ : ∃ ba, rightB r c len = ba := ⟨_, rfl⟩
  have hbah := Lib.hid hba
  go_upto_region 5 with (fail)
  clear g1 g2 g3 g4 c2
  obtain ⟨b0, hb0⟩ : ∃ b0, (ba && decide (m ≤ 255)) = b0 := ⟨_, rfl⟩
  have hb0h := Lib.hid hb0
  go_cut [5] (fun v wx => v = .bool b0 ∧ Below W.heap.size W wx)
  case first =>
    go_wp2_with fail
    refine (l_ref r c a len cap y1).mono ?_
    rintro e y2 ⟨rfl, hy⟩
    have kW_y2 := Lib.hid (below_step kW_y1.out kW_y1.out.size hy)
    clear hy bm
    have kx := x_right r c a len cap y2
    rw [hba] at kx
    clear hba
    go_wp2_with fail
    refine (kx).mono ?_
    rintro e y3 ⟨rfl, hy⟩
    have kW_y3 := Lib.hid (below_step kW_y2.out kW_y2.out.size hy)
    clear hy kx
    have hlast := kW_y3
    cases ba with
    | false =>
      have e1 : Hid (b0 = false) := hide (by rw [← hb0]; rfl)
      clear hb0
      go_wp2_with fail
      go_meet
      exact ⟨by rw [e1.out], hlast.out⟩
    | true =>
      have e1 : Hid (b0 = decide (m ≤ 255)) := hide (by rw [← hb0, Bool.true_and])
      by_cases hm : m ≤ 255
      · have g5 : decide ((m : Int) ≤ 255) = true := decide_eq_true (by omega)
        have g6 : decide (m ≤ 255) = true := decide_eq_true hm
        have e2 : Hid (b0 = true) := hide (by rw [e1.out, g6])
        clear hb0
        go_wp2_with fail
        go_meet
        exact ⟨by rw [e2.out], hlast.out⟩
      · have g5 : decide ((m : Int) ≤ 255) = false := decide_eq_false (by omega)
        have g6 : decide (m ≤ 255) = false := decide_eq_false hm
        have e2 : Hid (b0 = false) := hide (by rw [e1.out, g6])
        clear hb0
        go_wp2_with fail
        go_meet
        exact ⟨by rw [e2.out], hlast.out⟩
  case rest =>
    obtain ⟨rfl, hy⟩ := hcut
    have kW_y3 := Lib.hid hy
    clear hy bm
    generalize wc = y3 at *
    have hloop : Hid (y3.cell? ⟨w.heap.size, 0, none⟩ = some (.int .i64 r)) := hide ((cell_of_block (blk_heap (hS.out _ kW_y3.out))).trans rfl)
    have hJc : Hid (∀ i, i < m → ∃ b off, a1 = some ⟨b, off, none⟩ ∧ y3.cell? ⟨b, off + i, none⟩ = some (.int .i64 (J i))) := hide (fun i hi => (hz1h.out.below (hfin.out _ kW_y3.out)) i hi)
    have hstart : Hid (okB b0 r J 0 = b0) := hide (by unfold okB; rfl)
    go_upto_region 7 with (fail)
    go_loopw [5, 6] (fun v5 v6 wr => ∃ i n : Nat, i ≤ m ∧ v6 = .int .i64 (i : Nat) ∧ v5 = .bool (okB b0 r J i) ∧ wr = y3.drewN n) (fun _ v6 _ => m - (intOf v6).toNat)
    case atStart => exact ⟨0, 0, Nat.zero_le _, rfl, by rw [hstart.out], rfl⟩
    case round =>
      obtain ⟨i, n, hi, rfl, rfl, rfl⟩ := hrel
      clear hstart
      by_cases him : i < m
      · have i1 : (i : Int) < (m : Int) := by omega
        obtain ⟨bb, oo, hse, hrc0⟩ := hJc.out i him
        subst hse
        have c0 := hloop.out
        have hnx := Lib.hid (okB_next b0 r J i)
        obtain ⟨x, hx⟩ : ∃ x, J i = x := ⟨_, rfl⟩
        rw [hx] at hrc0 hnx
        obtain ⟨bi, hbi⟩ : ∃ bi, okB b0 r J i = bi := ⟨_, rfl⟩
        rw [hbi] at hnx ⊢
        clear hx hbi
        cases bi with
        | false =>
          have hn2 : Hid (okB b0 r J (i + 1) = false) := hide (by rw [hnx.out]; rfl)
          clear hnx
          go_wp2_with fail
          go_quiet (fail)
          go_wp2_with fail
          go_roundw
          case rel => exact ⟨i + 1, _, by omega, by go_num, by rw [hn2.out], rfl⟩
          case measure => simp [intOf]; omega
        | true =>
          by_cases hx0 : 0 ≤ x
          · have f0 : decide (0 ≤ x) = true := decide_eq_true hx0
            by_cases hxr : x < r
            · have f1 : decide (x < r) = true := decide_eq_true hxr
              have hn2 : Hid (okB b0 r J (i + 1) = true) := hide (by rw [hnx.out, f0, f1]; rfl)
              clear hnx hx0 hxr
              go_wp2_with fail
              go_quiet (fail)
              go_wp2_with fail
              go_roundw
              case rel => exact ⟨i + 1, _, by omega, by go_num, by rw [hn2.out], rfl⟩
              case measure => simp [intOf]; omega
            · have f1 : decide (x < r) = false := decide_eq_false hxr
              have hn2 : Hid (okB b0 r J (i + 1) = false) := hide (by rw [hnx.out, f0, f1]; rfl)
              clear hnx hx0 hxr
              go_wp2_with fail
              go_quiet (fail)
              go_wp2_with fail
              go_roundw
              case rel => exact ⟨i + 1, _, by omega, by go_num, by rw [hn2.out], rfl⟩
              case measure => simp [intOf]; omega
          · have f0 : decide (0 ≤ x) = false := decide_eq_false hx0
            have hn2 : Hid (okB b0 r J (i + 1) = false) := hide (by rw [hnx.out, f0]; rfl)
            clear hnx hx0
            go_wp2_with fail
            go_quiet (fail)
            go_wp2_with fail
            go_roundw
            case rel => exact ⟨i + 1, _, by omega, by go_num, by rw [hn2.out], rfl⟩
            case measure => simp [intOf]; omega
      · obtain rfl : m = i := by omega
        have i1 : decide ((m : Int) < (m : Int)) = false := by simp
        have kW_y4 := Lib.hid (below_drewN kW_y3.out n)
        clear hloop hJc
        generalize y3.drewN n = y4 at *
        have bm := hS.out _ kW_y4.out
        have hby4 := Lib.hid (hbyh.out.below (hfin.out _ kW_y4.out))
        go_wp2_with fail
        refine (m_clone r c a len cap f y4 hby4.out hnilh.out (by omega)).mono ?_
        rintro e y5 ⟨g, cc, rfl, _, hcc, _, hbr, hy⟩
        have hbr1 := Lib.hid hbr.by
        have hby9 := Lib.hid (fun z (hz : Below y5.heap.size y5 z) => hbr1.out.below hz)
        clear hbr hcc hbr1
        have kW_y5 := Lib.hid (below_step kW_y4.out kW_y4.out.size hy)
        clear hy bm
        go_upto_region 11 with (fail)
        obtain ⟨x0, x1, x2⟩ := boxed y5 #[.int .i64 0, .int .i64 0, .slice none 0 0] #[.int .i64 r, .int .i64 c, .slice (some ⟨g, 0, none⟩) len cc] 24
        generalize World.setRow (World.alloc y5 _) _ _ = Xk at *
        have hlk : y5.heap.size < Xk.heap.size := by omega
        have hvk : Hid (∀ z, Below Xk.heap.size Xk z → blk z y5.heap.size = some (.cells #[.int .i64 r, .int .i64 c, .slice (some ⟨g, 0, none⟩) len cc] 24 (0, 0))) := hide (fun z hz => (blk_below hz hlk).trans (blk_of x0))
        have kXk_Xk : Hid (Below Xk.heap.size Xk Xk) := hide (Below.refl _ _)
        have hbyk : Hid (∀ z, Below Xk.heap.size Xk z → By z (some ⟨g, 0, none⟩) len f) := hide (fun z hz => hby9.out z (below_step x2 x2.size hz))
        have kW_Xk := Lib.hid (below_step kW_y5.out kW_y5.out.size x2)
        obtain ⟨qk, hq⟩ : ∃ qk, y5.heap.size = qk := ⟨_, rfl⟩
        rw [hq] at hvk hlk ⊢
        clear x0 x1 x2 hq
        have hS2 : Hid (∀ z, Below Xk.heap.size Xk z → (fun y : World => blk y qk = some (.cells #[.int .i64 r, .int .i64 c, .slice (some ⟨g, 0, none⟩) len cc] 24 (0, 0)) ∧ blk y w.heap.size = some (.cells #[.int .i64 r, .int .i64 c, .slice a len cap] 24 (0, 0))) z) := hide (fun z hz => ⟨hvk.out z hz, hS.out z (below_step kW_Xk.out kW_Xk.out.size hz)⟩)
        have hbya : Hid (∀ z, Below Xk.heap.size Xk z → By z a len f) := hide (fun z hz => hbyh.out.below (hfin.out z (below_step kW_Xk.out kW_Xk.out.size hz)))
        have kXk_d : Hid (Below Xk.heap.size Xk Xk.drew) := hide (below_drewN (Below.refl _ _) 1)
        have kW_d : Hid (Below W.heap.size W Xk.drew) := hide (below_drewN kW_Xk.out 1)
        refine h_begin 6 (fun y : World => blk y qk = some (.cells #[.int .i64 r, .int .i64 c, .slice (some ⟨g, 0, none⟩) len cc] 24 (0, 0)) ∧ blk y w.heap.size = some (.cells #[.int .i64 r, .int .i64 c, .slice a len cap] 24 (0, 0))) rfl (by kernel_rfl) (hS2.out _ kXk_d.out) ?_
        have hHeld : (fun y : World => blk y qk = some (.cells #[.int .i64 r, .int .i64 c, .slice (some ⟨g, 0, none⟩) len cc] 24 (0, 0)) ∧ blk y w.heap.size = some (.cells #[.int .i64 r, .int .i64 c, .slice a len cap] 24 (0, 0))) Xk.drew := hS2.out _ kXk_d.out
        first
          | (refine h_run (i := 0) (v := ?_) hHeld rfl (by kernel_rfl) (by kernel_rfl) (by kernel_rfl) ?_ ?_ ?_
             rotate_left
             · rfl
             · (intro x hSx; (try dsimp only at hSx); go_simp <;> with_reducible rfl)
             simp only [Act.put, List.setIfInBounds_toArray, List.set_cons_zero, List.set_cons_succ])
          | (refine h_skip (i := 0) hHeld rfl (by kernel_rfl) (by kernel_rfl) (by kernel_rfl) ?_ ?_
             · rfl
             simp only [Act.put, List.setIfInBounds_toArray, List.set_cons_zero, List.set_cons_succ])
        first
          | (refine h_run (i := 2) (v := ?_) hHeld rfl (by kernel_rfl) (by kernel_rfl) (by kernel_rfl) ?_ ?_ ?_
             rotate_left
             · rfl
             · (intro x hSx; (try dsimp only at hSx); go_simp <;> with_reducible rfl)
             simp only [Act.put, List.setIfInBounds_toArray, List.set_cons_zero, List.set_cons_succ])
          | (refine h_skip (i := 2) hHeld rfl (by kernel_rfl) (by kernel_rfl) (by kernel_rfl) ?_ ?_
             · rfl
             simp only [Act.put, List.setIfInBounds_toArray, List.set_cons_zero, List.set_cons_succ])
        clear hHeld
        generalize Xk.drew = d at *
        refine h_call (i := 1) (fun y : World => blk y qk = some (.cells #[.int .i64 r, .int .i64 c, .slice (some ⟨g, 0, none⟩) len cc] 24 (0, 0)) ∧ blk y w.heap.size = some (.cells #[.int .i64 r, .int .i64 c, .slice a len cap] 24 (0, 0))) (fun _ h => h) (l_ref r c (some ⟨g, 0, none⟩) len cc d) rfl (by kernel_rfl) rfl ?_ ?_
        · go_simp <;> with_reducible rfl
        rintro e y6 ⟨rfl, hy⟩
        have kW_y6 := Lib.hid (below_step kW_d.out kW_d.out.size hy)
        have kXk_y6 := Lib.hid (below_step kXk_d.out kXk_d.out.size hy)
        refine ⟨_, rfl, hS2.out _ kXk_y6.out, ?_⟩
        clear hy
        refine h_call (i := 3) (fun y : World => blk y qk = some (.cells #[.int .i64 r, .int .i64 c, .slice (some ⟨g, 0, none⟩) len cc] 24 (0, 0)) ∧ blk y w.heap.size = some (.cells #[.int .i64 r, .int .i64 c, .slice a len cap] 24 (0, 0))) (fun _ h => h) (l_ref r c a len cap y6) rfl (by kernel_rfl) rfl ?_ ?_
        · go_simp <;> with_reducible rfl
        rintro e y7 ⟨rfl, hy⟩
        have kW_y7 := Lib.hid (below_step kW_y6.out kW_y6.out.size hy)
        have kXk_y7 := Lib.hid (below_step kXk_y6.out kXk_y6.out.size hy)
        refine ⟨_, rfl, hS2.out _ kXk_y7.out, ?_⟩
        clear hy
        refine h_call (i := 4) (fun y : World => blk y qk = some (.cells #[.int .i64 r, .int .i64 c, .slice (some ⟨g, 0, none⟩) len cc] 24 (0, 0)) ∧ blk y w.heap.size = some (.cells #[.int .i64 r, .int .i64 c, .slice a len cap] 24 (0, 0))) (fun _ h => h) (x_same r c (some ⟨g, 0, none⟩) a cc cap len f y7 (hbyk.out _ kXk_y7.out) (hbya.out _ kXk_y7.out) (by omega)) rfl (by kernel_rfl) rfl ?_ ?_
        · go_simp <;> with_reducible rfl
        rintro e y8 ⟨rfl, hy⟩
        have kW_y8 := Lib.hid (below_step kW_y7.out kW_y7.out.size hy)
        have kXk_y8 := Lib.hid (below_step kXk_y7.out kXk_y7.out.size hy)
        refine ⟨_, rfl, hS2.out _ kXk_y8.out, ?_⟩
        clear hy
        have hHeld : (fun y : World => blk y qk = some (.cells #[.int .i64 r, .int .i64 c, .slice (some ⟨g, 0, none⟩) len cc] 24 (0, 0)) ∧ blk y w.heap.size = some (.cells #[.int .i64 r, .int .i64 c, .slice a len cap] 24 (0, 0))) y8 := hS2.out _ kXk_y8.out
        first
          | (refine h_run (i := 5) (v := ?_) hHeld rfl (by kernel_rfl) (by kernel_rfl) (by kernel_rfl) ?_ ?_ ?_
             rotate_left
             · rfl
             · (intro x hSx; (try dsimp only at hSx); go_simp <;> with_reducible rfl)
             simp only [Act.put, List.setIfInBounds_toArray, List.set_cons_zero, List.set_cons_succ])
          | (refine h_skip (i := 5) hHeld rfl (by kernel_rfl) (by kernel_rfl) (by kernel_rfl) ?_ ?_
             · rfl
             simp only [Act.put, List.setIfInBounds_toArray, List.set_cons_zero, List.set_cons_succ])
        clear hHeld
        refine h_done (by kernel_rfl) ?_
        clear hbyk hby9 hbya hby4
        have bm := hS.out _ kW_y8.out
        rcases first_no (fun j => 0 ≤ J j ∧ J j < r) m with hall | ⟨n, hn, hbad, hbef⟩
        · by_cases hgo : b0 = true
          · have hok : okB b0 r J m = true := (okB_all _ _ _ _).2 ⟨hgo, hall⟩
            have hm : m ≤ 255 := by rw [← hb0] at hgo; simp only [Bool.and_eq_true, decide_eq_true_eq] at hgo; exact hgo.2
            have hbt : rightB r c len = true := by rw [hbah.out]; rw [← hb0] at hgo; simp only [Bool.and_eq_true] at hgo; exact hgo.1
            obtain ⟨R, C, F, hx⟩ := hrx.out hbt
            obtain ⟨hrR, hcC, hlen, hR, hC, hmA, hbF, hnA, hcA⟩ := hx
            have hmAh := Lib.hid (fun y hy => hmA.below (hfin.out y hy))
            subst hrR hcC
            have hallh := Lib.hid hall
            rw [hlen] at hS hS2 bm ⊢
            rw [hok]
            have hlenh := Lib.hid hlen
            have kpk := Lib.hid (fun y hy => m_pick R C m m a a1 cap cap1 F J y (hmAh.out y hy) (hz1h.out.below (hfin.out y hy)) hR hC hm hcA (Nat.le_refl _) hallh.out (fun h => absurd h (by omega)))
            clear hall hgo hok hbt hmA hnA hcA hlen hb0 hb0h
            go_wp2_with fail
            refine (kpk.out y8 kW_y8.out).mono ?_
            rintro e y9 hp
            obtain ⟨_, gp, rfl, _, hmp, hy⟩ := hp.resolve_right (fun h => absurd h.1 (by omega))
            have hmp1 := Lib.hid hmp.mat
            have hmp2 := Lib.hid (fun z (hz : Below y9.heap.size y9 z) => hmp1.out.below hz)
            have kW_y9 := Lib.hid (below_step kW_y8.out kW_y8.out.size hy)
            have kXk_y9 := Lib.hid (below_step kXk_y8.out kXk_y8.out.size hy)
            clear hy hmp hmp1 hp
            go_upto_region 14 with (fail)
            obtain ⟨x0, x1, x2⟩ := boxed y9 #[.int .i64 0, .int .i64 0, .slice none 0 0] #[.int .i64 (m : Nat), .int .i64 (C : Nat), .slice (some ⟨gp, 0, none⟩) (m * C) (m * C)] 24
            generalize World.setRow (World.alloc y9 _) _ _ = Xp at *
            have hlp : y9.heap.size < Xp.heap.size := by omega
            have hvp : Hid (∀ z, Below Xp.heap.size Xp z → blk z y9.heap.size = some (.cells #[.int .i64 (m : Nat), .int .i64 (C : Nat), .slice (some ⟨gp, 0, none⟩) (m * C) (m * C)] 24 (0, 0))) := hide (fun z hz => (blk_below hz hlp).trans (blk_of x0))
            have kXp_Xp : Hid (Below Xp.heap.size Xp Xp) := hide (Below.refl _ _)
            have hmp3 : Hid (∀ z, Below Xp.heap.size Xp z → MAt z (some ⟨gp, 0, none⟩) m C (pkF F (fun i => (J i).toNat))) := hide (fun z hz => hmp2.out z (below_step x2 x2.size hz))
            have kW_Xp := Lib.hid (below_step kW_y9.out kW_y9.out.size x2)
            have kXk_Xp := Lib.hid (below_step kXk_y9.out kXk_y9.out.size x2)
            obtain ⟨qp, hq⟩ : ∃ qp, y9.heap.size = qp := ⟨_, rfl⟩
            rw [hq] at hvp hlp ⊢
            clear x0 x1 x2 hq
            have hS3 : Hid (∀ z, Below Xp.heap.size Xp z → (fun y : World => blk y qp = some (.cells #[.int .i64 (m : Nat), .int .i64 (C : Nat), .slice (some ⟨gp, 0, none⟩) (m * C) (m * C)] 24 (0, 0)) ∧ blk y w.heap.size = some (.cells #[.int .i64 (R : Nat), .int .i64 (C : Nat), .slice a (R * C) cap] 24 (0, 0))) z) := hide (fun z hz => ⟨hvp.out z hz, hS.out z (below_step kW_Xp.out kW_Xp.out.size hz)⟩)
            have kXp_u : Hid (Below Xp.heap.size Xp Xp.drew) := hide (below_drewN (Below.refl _ _) 1)
            have kW_u : Hid (Below W.heap.size W Xp.drew) := hide (below_drewN kW_Xp.out 1)
            have kxp : Hid (∀ y, Below W.heap.size W y → Calls Try.prog 31 #[.agg #[.int .i64 (R : Nat), .int .i64 (C : Nat), .slice a (R * C) cap], .slice a1 m cap1] y (fun e w' => ∃ s cap, e = .returned (.agg #[.int .i64 (m : Nat), .int .i64 (C : Nat), .slice s (m * C) cap]) ∧ By w' s (m * C) (flF C (pkF F (fun i => (J i).toNat))) ∧ Below y.heap.size y w')) := hide (fun y hy => (x_pick R C m a a1 cap cap1 F (fun i => (J i).toNat) y (hmAh.out y hy) (fun i hi => by
              obtain ⟨b, off, hs, hc⟩ := (hz1h.out.below (hfin.out y hy)) i hi
              have := (hallh.out i hi).1
              have e : (((J i).toNat : Nat) : Int) = J i := by omega
              exact ⟨b, off, hs, by dsimp only; rw [e]; exact hc⟩) (fun i hi => by have := hallh.out i hi; omega) hm hR hC).mono (fun e w' ⟨s, cap, h1, h2, _, _, h3⟩ => ⟨s, cap, h1, h2.by, h3⟩))
            have hrc := Nat.le_trans (rc_le hm hC) (show 65025 ≤ 100000000 by decide)
            have hmpb : Hid (∀ z, Below Xp.heap.size Xp z → By z (some ⟨gp, 0, none⟩) (m * C) (flF C (pkF F (fun i => (J i).toNat)))) := hide (fun z hz => (hmp3.out z hz).by)
            go_upto_region 16 with (fail)
            generalize (flF C (pkF F (fun i => (J i).toNat))) = ff at *
            generalize m * C = L at *
            clear bm hallh kpk
            refine h_begin 12 (fun y : World => blk y qp = some (.cells #[.int .i64 (m : Nat), .int .i64 (C : Nat), .slice (some ⟨gp, 0, none⟩) (L) (L)] 24 (0, 0)) ∧ blk y w.heap.size = some (.cells #[.int .i64 (R : Nat), .int .i64 (C : Nat), .slice a (R * C) cap] 24 (0, 0))) rfl (by kernel_rfl) (hS3.out _ kXp_u.out) ?_
            have hHeld : (fun y : World => blk y qp = some (.cells #[.int .i64 (m : Nat), .int .i64 (C : Nat), .slice (some ⟨gp, 0, none⟩) (L) (L)] 24 (0, 0)) ∧ blk y w.heap.size = some (.cells #[.int .i64 (R : Nat), .int .i64 (C : Nat), .slice a (R * C) cap] 24 (0, 0))) Xp.drew := hS3.out _ kXp_u.out
            first
              | (refine h_run (i := 0) (v := ?_) hHeld rfl (by kernel_rfl) (by kernel_rfl) (by kernel_rfl) ?_ ?_ ?_
                 rotate_left
                 · rfl
                 · (intro x hSx; (try dsimp only at hSx); go_simp <;> with_reducible rfl)
                 simp only [Act.put, List.setIfInBounds_toArray, List.set_cons_zero, List.set_cons_succ])
              | (refine h_skip (i := 0) hHeld rfl (by kernel_rfl) (by kernel_rfl) (by kernel_rfl) ?_ ?_
                 · rfl
                 simp only [Act.put, List.setIfInBounds_toArray, List.set_cons_zero, List.set_cons_succ])
            first
              | (refine h_run (i := 1) (v := ?_) hHeld rfl (by kernel_rfl) (by kernel_rfl) (by kernel_rfl) ?_ ?_ ?_
                 rotate_left
                 · rfl
                 · (intro x hSx; (try dsimp only at hSx); go_simp <;> with_reducible rfl)
                 simp only [Act.put, List.setIfInBounds_toArray, List.set_cons_zero, List.set_cons_succ])
              | (refine h_skip (i := 1) hHeld rfl (by kernel_rfl) (by kernel_rfl) (by kernel_rfl) ?_ ?_
                 · rfl
                 simp only [Act.put, List.setIfInBounds_toArray, List.set_cons_zero, List.set_cons_succ])
            first
              | (refine h_run (i := 2) (v := ?_) hHeld rfl (by kernel_rfl) (by kernel_rfl) (by kernel_rfl) ?_ ?_ ?_
                 rotate_left
                 · rfl
                 · (intro x hSx; (try dsimp only at hSx); go_simp <;> with_reducible rfl)
                 simp only [Act.put, List.setIfInBounds_toArray, List.set_cons_zero, List.set_cons_succ])
              | (refine h_skip (i := 2) hHeld rfl (by kernel_rfl) (by kernel_rfl) (by kernel_rfl) ?_ ?_
                 · rfl
                 simp only [Act.put, List.setIfInBounds_toArray, List.set_cons_zero, List.set_cons_succ])
            first
              | (refine h_run (i := 3) (v := ?_) hHeld rfl (by kernel_rfl) (by kernel_rfl) (by kernel_rfl) ?_ ?_ ?_
                 rotate_left
                 · rfl
                 · (intro x hSx; (try dsimp only at hSx); go_simp <;> with_reducible rfl)
                 simp only [Act.put, List.setIfInBounds_toArray, List.set_cons_zero, List.set_cons_succ])
              | (refine h_skip (i := 3) hHeld rfl (by kernel_rfl) (by kernel_rfl) (by kernel_rfl) ?_ ?_
                 · rfl
                 simp only [Act.put, List.setIfInBounds_toArray, List.set_cons_zero, List.set_cons_succ])
            first
              | (refine h_run (i := 5) (v := ?_) hHeld rfl (by kernel_rfl) (by kernel_rfl) (by kernel_rfl) ?_ ?_ ?_
                 rotate_left
                 · rfl
                 · (intro x hSx; (try dsimp only at hSx); go_simp <;> with_reducible rfl)
                 simp only [Act.put, List.setIfInBounds_toArray, List.set_cons_zero, List.set_cons_succ])
              | (refine h_skip (i := 5) hHeld rfl (by kernel_rfl) (by kernel_rfl) (by kernel_rfl) ?_ ?_
                 · rfl
                 simp only [Act.put, List.setIfInBounds_toArray, List.set_cons_zero, List.set_cons_succ])
            first
              | (refine h_run (i := 7) (v := ?_) hHeld rfl (by kernel_rfl) (by kernel_rfl) (by kernel_rfl) ?_ ?_ ?_
                 rotate_left
                 · rfl
                 · (intro x hSx; (try dsimp only at hSx); go_simp <;> with_reducible rfl)
                 simp only [Act.put, List.setIfInBounds_toArray, List.set_cons_zero, List.set_cons_succ])
              | (refine h_skip (i := 7) hHeld rfl (by kernel_rfl) (by kernel_rfl) (by kernel_rfl) ?_ ?_
                 · rfl
                 simp only [Act.put, List.setIfInBounds_toArray, List.set_cons_zero, List.set_cons_succ])
            clear hHeld
            generalize Xp.drew = u at *
            refine h_call (i := 4) (fun y : World => blk y qp = some (.cells #[.int .i64 (m : Nat), .int .i64 (C : Nat), .slice (some ⟨gp, 0, none⟩) (L) (L)] 24 (0, 0)) ∧ blk y w.heap.size = some (.cells #[.int .i64 (R : Nat), .int .i64 (C : Nat), .slice a (R * C) cap] 24 (0, 0))) (fun _ h => h) (l_ref m C (some ⟨gp, 0, none⟩) L L u) rfl (by kernel_rfl) rfl ?_ ?_
            · go_simp <;> with_reducible rfl
            rintro e y10 ⟨rfl, hy⟩
            have kW_y10 := Lib.hid (below_step kW_u.out kW_u.out.size hy)
            have kXp_y10 := Lib.hid (below_step kXp_u.out kXp_u.out.size hy)
            refine ⟨_, rfl, hS3.out _ kXp_y10.out, ?_⟩
            clear hy
            refine h_call (i := 6) (fun y : World => blk y qp = some (.cells #[.int .i64 (m : Nat), .int .i64 (C : Nat), .slice (some ⟨gp, 0, none⟩) (L) (L)] 24 (0, 0)) ∧ blk y w.heap.size = some (.cells #[.int .i64 (R : Nat), .int .i64 (C : Nat), .slice a (R * C) cap] 24 (0, 0))) (fun _ h => h) (l_ref R C a (R * C) cap y10) rfl (by kernel_rfl) rfl ?_ ?_
            · go_simp <;> with_reducible rfl
            rintro e y11 ⟨rfl, hy⟩
            have kW_y11 := Lib.hid (below_step kW_y10.out kW_y10.out.size hy)
            have kXp_y11 := Lib.hid (below_step kXp_y10.out kXp_y10.out.size hy)
            refine ⟨_, rfl, hS3.out _ kXp_y11.out, ?_⟩
            clear hy
            refine h_call (i := 8) (fun y : World => blk y qp = some (.cells #[.int .i64 (m : Nat), .int .i64 (C : Nat), .slice (some ⟨gp, 0, none⟩) (L) (L)] 24 (0, 0)) ∧ blk y w.heap.size = some (.cells #[.int .i64 (R : Nat), .int .i64 (C : Nat), .slice a (R * C) cap] 24 (0, 0))) (fun _ h => h) (kxp.out y11 kW_y11.out) rfl (by kernel_rfl) rfl ?_ ?_
            · go_simp <;> with_reducible rfl
            rintro e y12 ⟨sx, cx, rfl, hbx, hy⟩
            have hbxh := Lib.hid hbx
            clear hbx
            have kW_y12 := Lib.hid (below_step kW_y11.out kW_y11.out.size hy)
            have kXp_y12 := Lib.hid (below_step kXp_y11.out kXp_y11.out.size hy)
            refine ⟨_, rfl, hS3.out _ kXp_y12.out, ?_⟩
            clear hy
            refine h_call (i := 9) (fun y : World => blk y qp = some (.cells #[.int .i64 (m : Nat), .int .i64 (C : Nat), .slice (some ⟨gp, 0, none⟩) (L) (L)] 24 (0, 0)) ∧ blk y w.heap.size = some (.cells #[.int .i64 (R : Nat), .int .i64 (C : Nat), .slice a (R * C) cap] 24 (0, 0))) (fun _ h => h) (x_same m C (some ⟨gp, 0, none⟩) sx L cx L ff y12 (hmpb.out _ kXp_y12.out) hbxh.out hrc) rfl (by kernel_rfl) rfl ?_ ?_
            · go_simp <;> with_reducible rfl
            rintro e y13 ⟨rfl, hy⟩
            have kW_y13 := Lib.hid (below_step kW_y12.out kW_y12.out.size hy)
            have kXp_y13 := Lib.hid (below_step kXp_y12.out kXp_y12.out.size hy)
            refine ⟨_, rfl, hS3.out _ kXp_y13.out, ?_⟩
            clear hy
            have hHeld : (fun y : World => blk y qp = some (.cells #[.int .i64 (m : Nat), .int .i64 (C : Nat), .slice (some ⟨gp, 0, none⟩) (L) (L)] 24 (0, 0)) ∧ blk y w.heap.size = some (.cells #[.int .i64 (R : Nat), .int .i64 (C : Nat), .slice a (R * C) cap] 24 (0, 0))) y13 := hS3.out _ kXp_y13.out
            first
              | (refine h_run (i := 10) (v := ?_) hHeld rfl (by kernel_rfl) (by kernel_rfl) (by kernel_rfl) ?_ ?_ ?_
                 rotate_left
                 · rfl
                 · (intro x hSx; (try dsimp only at hSx); go_simp <;> with_reducible rfl)
                 simp only [Act.put, List.setIfInBounds_toArray, List.set_cons_zero, List.set_cons_succ])
              | (refine h_skip (i := 10) hHeld rfl (by kernel_rfl) (by kernel_rfl) (by kernel_rfl) ?_ ?_
                 · rfl
                 simp only [Act.put, List.setIfInBounds_toArray, List.set_cons_zero, List.set_cons_succ])
            first
              | (refine h_run (i := 11) (v := ?_) hHeld rfl (by kernel_rfl) (by kernel_rfl) (by kernel_rfl) ?_ ?_ ?_
                 rotate_left
                 · rfl
                 · (intro x hSx; (try dsimp only at hSx); go_simp <;> with_reducible rfl)
                 simp only [Act.put, List.setIfInBounds_toArray, List.set_cons_zero, List.set_cons_succ])
              | (refine h_skip (i := 11) hHeld rfl (by kernel_rfl) (by kernel_rfl) (by kernel_rfl) ?_ ?_
                 · rfl
                 simp only [Act.put, List.setIfInBounds_toArray, List.set_cons_zero, List.set_cons_succ])
            clear hHeld
            refine h_done (by kernel_rfl) ?_
            have hlast := Lib.hid (hfin.out _ kW_y13.out)
            go_wp2_with fail
            go_ret
            exact ⟨rfl, hlast.out⟩
          · have hno : rightB r c len = false ∨ 255 < m := by
              rw [hbah.out]
              cases ba with
              | false => exact .inl rfl
              | true => exact .inr (by rw [← hb0, Bool.true_and, decide_eq_true_eq] at hgo; omega)
            have hkp := Lib.hid (fun (y : World) (_ : Below W.heap.size W y) => m_pick_no r c a a1 len cap m cap1 y hno (by omega))
            clear hb0 hno hb0h
            have hfalse : okB b0 r J m = false := by cases hq : okB b0 r J m with | false => rfl | true => exact absurd ((okB_all _ _ _ _).1 hq).1 hgo
            rw [hfalse]
            go_wp2_with fail
            refine (hkp.out y8 kW_y8.out).mono ?_
            rintro e y9 ⟨rfl, hy⟩
            have kW_y9 := Lib.hid (below_step kW_y8.out kW_y8.out.size hy)
            have kXk_y9 := Lib.hid (below_step kXk_y8.out kXk_y8.out.size hy)
            clear hy bm hfalse
            go_upto_region 14 with (fail)
            obtain ⟨x0, x1, x2⟩ := boxed y9 #[.int .i64 0, .int .i64 0, .slice none 0 0] #[.int .i64 0, .int .i64 0, .slice none 0 0] 24
            generalize World.setRow (World.alloc y9 _) _ _ = Xp at *
            have hlp : y9.heap.size < Xp.heap.size := by omega
            have hvp : Hid (∀ z, Below Xp.heap.size Xp z → blk z y9.heap.size = some (.cells #[.int .i64 0, .int .i64 0, .slice none 0 0] 24 (0, 0))) := hide (fun z hz => (blk_below hz hlp).trans (blk_of x0))
            have kXp_Xp : Hid (Below Xp.heap.size Xp Xp) := hide (Below.refl _ _)
            have kW_Xp := Lib.hid (below_step kW_y9.out kW_y9.out.size x2)
            have kXk_Xp := Lib.hid (below_step kXk_y9.out kXk_y9.out.size x2)
            obtain ⟨qp, hq⟩ : ∃ qp, y9.heap.size = qp := ⟨_, rfl⟩
            rw [hq] at hvp hlp ⊢
            clear x0 x1 x2 hq
            have bb := hvp.out _ kXp_Xp.out
            go_upto_region 15 with (fail)
            go_wp2_with fail
            refine (l_none Xp).mono ?_
            rintro e y10 ⟨rfl, hy⟩
            have kW_y10 := Lib.hid (below_step kW_Xp.out kW_Xp.out.size hy)
            have kXk_y10 := Lib.hid (below_step kXk_Xp.out kXk_Xp.out.size hy)
            have kXp_y10 := Lib.hid (below_step kXp_Xp.out kXp_Xp.out.size hy)
            clear hy bb
            have hlast := Lib.hid (hfin.out _ kW_y10.out)
            go_wp2_with fail
            go_ret
            exact ⟨rfl, hlast.out⟩
        · have hkp : Hid (∀ y, Below W.heap.size W y → Calls Try.prog 30 #[.agg #[.int .i64 r, .int .i64 c, .slice a len cap], .slice a1 m cap1] y (NoMPost y 50)) := hide (fun y hy => by
            by_cases hno : rightB r c len = false ∨ 255 < m
            · exact m_pick_no r c a a1 len cap m cap1 y hno (by omega)
            · have hbt : rightB r c len = true := by cases hq : rightB r c len with | true => rfl | false => exact absurd (.inl hq) hno
              obtain ⟨R, C, F, hx⟩ := hrx.out hbt
              obtain ⟨hrR, hcC, hlen, hR, hC, hmA, hbF, hnA, hcA⟩ := hx
              subst hrR hcC hlen
              exact (m_pick R C m n a a1 cap cap1 F J y (hmA.below (hfin.out y hy)) (hz1h.out.below (hfin.out y hy)) hR hC (by omega) hcA (by omega) hbef (fun _ => hbad)).mono (fun e w' h => (h.resolve_left (fun h => absurd h.1 (by omega))).2))
          have hq : okB b0 r J m = false := by cases hq : okB b0 r J m with | false => rfl | true => exact absurd (((okB_all _ _ _ _).1 hq).2 n hn) hbad
          clear hbad hbef hb0 hb0h
          have hfalse : okB b0 r J m = false := hq
          rw [hfalse]
          go_wp2_with fail
          refine (hkp.out y8 kW_y8.out).mono ?_
          rintro e y9 ⟨rfl, hy⟩
          have kW_y9 := Lib.hid (below_step kW_y8.out kW_y8.out.size hy)
          have kXk_y9 := Lib.hid (below_step kXk_y8.out kXk_y8.out.size hy)
          clear hy bm hfalse
          go_upto_region 14 with (fail)
          obtain ⟨x0, x1, x2⟩ := boxed y9 #[.int .i64 0, .int .i64 0, .slice none 0 0] #[.int .i64 0, .int .i64 0, .slice none 0 0] 24
          generalize World.setRow (World.alloc y9 _) _ _ = Xp at *
          have hlp : y9.heap.size < Xp.heap.size := by omega
          have hvp : Hid (∀ z, Below Xp.heap.size Xp z → blk z y9.heap.size = some (.cells #[.int .i64 0, .int .i64 0, .slice none 0 0] 24 (0, 0))) := hide (fun z hz => (blk_below hz hlp).trans (blk_of x0))
          have kXp_Xp : Hid (Below Xp.heap.size Xp Xp) := hide (Below.refl _ _)
          have kW_Xp := Lib.hid (below_step kW_y9.out kW_y9.out.size x2)
          have kXk_Xp := Lib.hid (below_step kXk_y9.out kXk_y9.out.size x2)
          obtain ⟨qp, hq⟩ : ∃ qp, y9.heap.size = qp := ⟨_, rfl⟩
          rw [hq] at hvp hlp ⊢
          clear x0 x1 x2 hq
          have bb := hvp.out _ kXp_Xp.out
          go_upto_region 15 with (fail)
          go_wp2_with fail
          refine (l_none Xp).mono ?_
          rintro e y10 ⟨rfl, hy⟩
          have kW_y10 := Lib.hid (below_step kW_Xp.out kW_Xp.out.size hy)
          have kXk_y10 := Lib.hid (below_step kXk_Xp.out kXk_Xp.out.size hy)
          have kXp_y10 := Lib.hid (below_step kXp_Xp.out kXp_Xp.out.size hy)
          clear hy bb
          have hlast := Lib.hid (hfin.out _ kW_y10.out)
          go_wp2_with fail
          go_ret
          exact ⟨rfl, hlast.out⟩
end Go.Proofs.Ytkcalgolanpjaaa

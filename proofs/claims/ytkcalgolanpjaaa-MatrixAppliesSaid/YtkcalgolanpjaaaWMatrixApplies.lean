/- The walk of the law MatrixApplies: it answers true for every input. -/
import Derived.Test.YtkcalgolanpjaaaMat20
import Derived.Test.YtkcalgolanpjaaaMatPair
import Derived.Test.YtkcalgolanpjaaaRowsOpen
namespace Go.Proofs.Ytkcalgolanpjaaa
open Go.RowKit
/-- are the first i as long as the first one? -/
def smB (L : Nat → Nat) : Nat → Bool
  | 0 => true
  | i + 1 => smB L i && (L i == L 0)
theorem smB_next (L : Nat → Nat) (i : Nat) : smB L (i + 1) = (smB L i && (L i == L 0)) := rfl
theorem smB_all (L : Nat → Nat) (n : Nat) : smB L n = true ↔ ∀ i, i < n → L i = L 0 := by
  induction n with
  | zero => exact ⟨fun _ i hi => absurd hi (by omega), fun _ => rfl⟩
  | succ n ih =>
    rw [smB_next]
    constructor
    · intro h i hi
      simp only [Bool.and_eq_true, beq_iff_eq] at h
      by_cases e : i = n
      · subst e; exact h.2
      · exact ih.1 h.1 i (by omega)
    · intro h
      rw [ih.2 fun i hi => h i (by omega), h n (by omega)]
      simp
/-- row j of the product, ahead of element t of the k-th sum -/
def wtF (F V : Nat → Nat → Nat) (i k t j : Nat) : Nat := if j < t then dtF F V i j (k + 1) else dtF F V i j k
theorem wt_zero (F V : Nat → Nat → Nat) (i k j : Nat) : dtF F V i j k = wtF F V i k 0 j := by unfold wtF; rw [if_neg (by omega)]
theorem wt_end (F V : Nat → Nat → Nat) (i k n j : Nat) (h : j < n) : wtF F V i k n j = dtF F V i j (k + 1) := by unfold wtF; rw [if_pos h]
theorem wt_at (F V : Nat → Nat → Nat) (i k t : Nat) : wtF F V i k t t = dtF F V i t k := by unfold wtF; rw [if_neg (by omega)]
theorem wt_next (F V : Nat → Nat → Nat) (i k t j : Nat) : (if j = t then dtF F V i t k ^^^ rmul (F i k) (V k t) else wtF F V i k t j) = wtF F V i k (t + 1) j := by
  unfold wtF
  by_cases e : j = t
  · subst e; rw [if_pos rfl, if_pos (by omega), dt_next]
  · rw [if_neg e]
    by_cases h : j < t
    · rw [if_pos h, if_pos (by omega)]
    · rw [if_neg h, if_neg (by omega)]
theorem RowsAt.get {w : World} {s : Option Addr} {m n i : Nat} {V : Nat → Nat → Nat} (h : RowsAt w s m n V) (hi : i < m) : ∃ b off a k, s = some ⟨b, off, none⟩ ∧ w.cell? ⟨b, off + i, none⟩ = some (.slice a n k) ∧ By w a n (V i) := h i hi
/-- the columns that came in -/
theorem cols_open {w : World} {a : Option Addr} {len cap : Nat} (h : IsRows w a len cap) : ∃ (L : Nat → Nat) (V : Nat → Nat → Nat), LensAt w a len L ∧ Bd2 V ∧ ∀ n, (∀ i, i < len → L i = n) → RowsAt w a len n V := by
  obtain ⟨A, L, K, Z, h1, _, _, _⟩ := h
  have key : ∀ i, i < len → ∃ f : Nat → Nat, By w (A i) (L i) f ∧ ∀ j, f j < 256 := fun i hi => by
    obtain ⟨b, off, hs, hc, hr⟩ := h1 i hi
    obtain ⟨f, hf, hb, _⟩ := mx_bytes hr
    exact ⟨f, hf, hb⟩
  obtain ⟨V, hV⟩ := Go.Deep.choose_lt (α := Nat → Nat) key
  refine ⟨L, fun i j => if i < len then V i j else 0, fun i hi => ?_, fun i j => ?_, fun n hn i hi => ?_⟩
  · obtain ⟨b, off, hs, hc, hr⟩ := h1 i hi
    exact ⟨b, off, A i, K i, hs, hc⟩
  · dsimp only
    split
    · exact (hV i ‹_›).2 j
    · decide
  · obtain ⟨b, off, hs, hc, hr⟩ := h1 i hi
    rw [hn i hi] at hc
    refine ⟨b, off, A i, K i, hs, hc, ?_⟩
    have := (hV i hi).1
    rw [hn i hi] at this
    exact this.congr (fun j _ => by dsimp only; rw [if_pos hi])
theorem brow_cell {w : World} {g n : Nat} {f : Nat → Nat} (h : BRow w g n f) (i : Nat) (hi : i < n) : w.cell? ⟨g, i, none⟩ = some (.int .u8 (f i : Nat)) := FRow.cell h i hi
theorem brow_fr {w : World} {g n : Nat} {f : Nat → Nat} (h : BRow w g n f) (off : Nat) : w.frozen? ⟨g, off, none⟩ = false := FRow.fr h off
theorem ml_dt (F V : Nat → Nat → Nat) (m i j : Nat) : mlF F V m i j = dtF F V i j m := rfl
theorem beq_nat_int (x y : Nat) (h : x = y) : (((x : Nat) : Int) == (y : Int)) = true := by subst h; simp
theorem beq_nat_int_no (x y : Nat) (h : x ≠ y) : (((x : Nat) : Int) == (y : Int)) = false := by simp; omega
attribute [local irreducible] gexp gtbl glog rmul rinv rpow zexp mixF blk wLoad wLoadRes loadAns wStore wStoreRes storeAns Plain flF BRow MRow IsGf MAt By dtF mlF RowsAt LensAt smB wtF
attribute [local go_sem ↓] ld_m0 ld_x0 sto_m0 sto_x0
attribute [local go_sem] ld_m ld_x sto_m sto_x loadAns_some storeAns_some mx_size mx_plain blk_alloc_if blk_setRow_if blk_drew_at blk_drewN_at rowPut_some blk_setCell_if cellPut_some
set_option maxRecDepth 100000 in
set_option maxHeartbeats 8000000 in
theorem matrixApplies_walk (v0 : Value) (a1 : Option Addr) (len1 cap1 : Nat) (w : World) (w0 : IsMx w v0) (w1 : IsRows w a1 len1 cap1) :
    Calls Try.prog 9 #[v0, .slice a1 len1 cap1] w fun e w' => e = .returned (.bool true) ∧ Below w.heap.size w w' := by
  obtain ⟨r, c, a, len, cap, zs, rfl, _, _, hrow⟩ := w0
  obtain ⟨L, V, hL, hVb, hV⟩ := cols_open w1
  obtain ⟨m, hme⟩ : ∃ m, len1 = m := ⟨_, rfl⟩
  have hm18 : len1 ≤ 9223372036854775807 := by
    obtain ⟨_, _, _, _, _, h2, h3, _⟩ := w1
    unfold maxLen at h3
    omega
  rw [hme] at hL hV hm18 ⊢
  have hLh := Lib.hid hL
  have hVh := Lib.hid hV
  have hVbh := Lib.hid hVb
  have hzM := zeroM
  have hzx := zeroX
  have hB := below_one w (.cells #[.int .i64 r, .int .i64 c, .slice a len cap] 24)
  have h0 := last_block0 w (.cells #[.int .i64 r, .int .i64 c, .slice a len cap] 24) _ rfl
  have hsz : w.heap.size < (w.alloc (.cells #[.int .i64 r, .int .i64 c, .slice a len cap] 24)).heap.size := by show _ < (w.heap.push _).size; rw [Array.size_push]; omega
  have hrx := Lib.hid (fun h => mx_right (r := r) (c := c) hrow h)
  clear hrow w1 hme hL hV hVb
  go_enter Try.func9, Try.ntmps9
  go_upto_region 1 with (fail)
  generalize World.alloc w _ = W at *
  have h0h := Lib.hid (blk_of h0)
  have hBh := Lib.hid hB
  clear h0 hB
  have hwW : w.heap.size ≤ W.heap.size := by omega
  have hfin : Hid (∀ y, Below W.heap.size W y → Below w.heap.size w y) := hide (fun y hy => hBh.out.trans (hy.mono hBh.out.size))
  have hS : Hid (∀ y, Below W.heap.size W y → blk y w.heap.size = some (.cells #[.int .i64 r, .int .i64 c, .slice a len cap] 24 (0, 0))) := hide (fun y hy => (blk_below hy hsz).trans h0h.out)
  have kW_W : Hid (Below W.heap.size W W) := hide (Below.refl _ _)
  go_wp2_with fail
  refine (m_awake W).mono ?_
  rintro e y1 ⟨rfl, hy⟩
  have kW_y1 := Lib.hid (below_step kW_W.out kW_W.out.size hy)
  clear hy
  have bm := hS.out _ kW_y1.out
  go_wp2_with fail
  refine (l_small r c a len cap y1).mono ?_
  rintro e y2 ⟨sm, rfl, hy, _⟩
  have kW_y2 := Lib.hid (below_step kW_y1.out kW_y1.out.size hy)
  clear hy bm
  cases sm with
  | false =>
    have hlast := Lib.hid (hfin.out _ kW_y2.out)
    go_wp2_with fail
    go_ret
    exact ⟨rfl, hlast.out⟩
  | true =>
  by_cases hbm : 30 < m
  · have g3 : decide ((30 : Int) < (m : Int)) = true := decide_eq_true (by omega)
    have g4 : decide (30 < m) = true := decide_eq_true hbm
    have hlast := Lib.hid (hfin.out _ kW_y2.out)
    go_wp2_with fail
    go_ret
    exact ⟨rfl, hlast.out⟩
  have g3 : decide ((30 : Int) < (m : Int)) = false := decide_eq_false (by omega)
  have g4 : decide (30 < m) = false := decide_eq_false hbm
  go_upto_region 7 with (fail)
  clear g3 g4
  have hLc : Hid (LensAt y2 a1 m L) := hide (hLh.out.below (hfin.out _ kW_y2.out))
  have hstart : Hid (smB L 0 = true) := hide (by unfold smB; rfl)
  go_loopw [5, 6] (fun v5 v6 wr => ∃ i n : Nat, i ≤ m ∧ v6 = .int .i64 (i : Nat) ∧ v5 = .bool (smB L i) ∧ wr = y2.drewN n ∧ Hid (∀ j, j < i → L j ≤ 60)) (fun _ v6 _ => m - (intOf v6).toNat)
  case atStart => exact ⟨0, 0, Nat.zero_le _, rfl, by rw [hstart.out], rfl, hide (fun j hj => absurd hj (by omega))⟩
  case round =>
    obtain ⟨i, n, hi, rfl, rfl, rfl, h60⟩ := hrel
    clear hstart
    by_cases him : i < m
    · have i1 : (i : Int) < (m : Int) := by omega
      obtain ⟨bb, oo, xx, kk, hse, hcc⟩ := hLc.out.get him
      obtain ⟨b2, o2, x2, k2, hse2, hc2⟩ := hLc.out.get (show 0 < m by omega)
      subst hse
      injection hse2 with hse2
      injection hse2 with hb2 ho2
      subst hb2 ho2
      rw [Nat.add_zero] at hc2
      have m0 : (0 : Int) < (m : Int) := by omega
      have hnx := Lib.hid (smB_next L i)
      obtain ⟨bi, hbi⟩ : ∃ bi, smB L i = bi := ⟨_, rfl⟩
      rw [hbi] at hnx ⊢
      have h61 : Hid (L i ≤ 60 → ∀ j, j < i + 1 → L j ≤ 60) := hide (fun hle j hj => by
        by_cases e : j = i
        · subst e; exact hle
        · exact h60.out j (by omega))
      obtain ⟨x, hx⟩ : ∃ x, L i = x := ⟨_, rfl⟩
      obtain ⟨y, hy⟩ : ∃ y, L 0 = y := ⟨_, rfl⟩
      rw [hx] at hcc hnx h61
      rw [hy] at hc2 hnx
      have hlx := Lib.hid (hfin.out _ (below_drewN kW_y2.out n))
      clear hbi hx hy
      by_cases hx60 : 60 < x
      · have f0 : decide ((60 : Int) < (x : Int)) = true := decide_eq_true (by omega)
        have f1 : decide (60 < x) = true := decide_eq_true hx60
        clear hx60
        go_wp2_with fail
        go_ret
        exact ⟨rfl, hlx.out⟩
      · have f0 : decide ((60 : Int) < (x : Int)) = false := decide_eq_false (by omega)
        have f1 : decide (60 < x) = false := decide_eq_false hx60
        have h62 := Lib.hid (h61.out (by omega))
        cases bi with
        | false =>
          have hn2 : Hid (smB L (i + 1) = false) := hide (by rw [hnx.out]; rfl)
          clear hnx hx60
          go_wp2_with fail
          go_quiet (fail)
          go_wp2_with fail
          go_roundw
          case rel => exact ⟨i + 1, _, by omega, by go_num, by rw [hn2.out], rfl, h62⟩
          case measure => simp [intOf]; omega
        | true =>
          by_cases hxy : x = y
          · have q0 := beq_nat_int x y hxy
            have q1 : (x == y) = true := by rw [beq_iff_eq]; exact hxy
            have hn2 : Hid (smB L (i + 1) = true) := hide (by rw [hnx.out, q1]; rfl)
            clear hnx hxy hx60
            go_wp2_with fail
            go_quiet (fail)
            go_wp2_with fail
            go_roundw
            case rel => exact ⟨i + 1, _, by omega, by go_num, by rw [hn2.out], rfl, h62⟩
            case measure => simp [intOf]; omega
          · have q0 := beq_nat_int_no x y hxy
            have q1 : (x == y) = false := by simpa using hxy
            have hn2 : Hid (smB L (i + 1) = false) := hide (by rw [hnx.out, q1]; rfl)
            clear hnx hxy hx60
            go_wp2_with fail
            go_quiet (fail)
            go_wp2_with fail
            go_roundw
            case rel => exact ⟨i + 1, _, by omega, by go_num, by rw [hn2.out], rfl, h62⟩
            case measure => simp [intOf]; omega
    · obtain rfl : m = i := by omega
      have i1 : decide ((m : Int) < (m : Int)) = false := by simp
      have kW_v := Lib.hid (below_drewN kW_y2.out n)
      clear hLc
      generalize y2.drewN n = v at *
      go_upto_region 12 with (fail)
      clear i1
      obtain ⟨ba, hba⟩ : ∃ ba, rightB r c len = ba := ⟨_, rfl⟩
      have hbah := Lib.hid hba
      have kW_d : Hid (Below W.heap.size W v.drew) := hide (below_drewN kW_v.out 1)
      have krt := Lib.hid (fun y => x_right r c a len cap y)
      rw [hba] at krt
      clear hba
      by_cases hno : ba = false ∨ (m : Int) ≠ c
      · have hno2 : rightB r c len = false ∨ (m : Int) ≠ c := by rw [hbah.out]; exact hno
        have kap := Lib.hid (fun (p : Nat) y => m_apply_no (.pointer (some ⟨p, 0, none⟩)) r c a a1 len cap m cap1 y hno2)
        clear hno2
        refine h_begin 9 (fun y : World => blk y w.heap.size = some (.cells #[.int .i64 r, .int .i64 c, .slice a len cap] 24 (0, 0))) rfl (by kernel_rfl) (hS.out _ kW_d.out) ?_
        have hHeld : (fun y : World => blk y w.heap.size = some (.cells #[.int .i64 r, .int .i64 c, .slice a len cap] 24 (0, 0))) v.drew := hS.out _ kW_d.out
        first
          | (refine h_run (i := 1) (v := ?_) hHeld rfl (by kernel_rfl) (by kernel_rfl) (by kernel_rfl) ?_ ?_ ?_
             rotate_left
             · rfl
             · (intro x hSx; (try dsimp only at hSx); go_simp <;> with_reducible rfl)
             simp only [Act.put, List.setIfInBounds_toArray, List.set_cons_zero, List.set_cons_succ])
          | (refine h_skip (i := 1) hHeld rfl (by kernel_rfl) (by kernel_rfl) (by kernel_rfl) ?_ ?_
             · rfl
             simp only [Act.put, List.setIfInBounds_toArray, List.set_cons_zero, List.set_cons_succ])
        first
          | (refine h_run (i := 2) (v := ?_) hHeld rfl (by kernel_rfl) (by kernel_rfl) (by kernel_rfl) ?_ ?_ ?_
             rotate_left
             · rfl
             · (intro x hSx; (try dsimp only at hSx); go_simp <;> with_reducible rfl)
             simp only [Act.put, List.setIfInBounds_toArray, List.set_cons_zero, List.set_cons_succ])
          | (refine h_skip (i := 2) hHeld rfl (by kernel_rfl) (by kernel_rfl) (by kernel_rfl) ?_ ?_
             · rfl
             simp only [Act.put, List.setIfInBounds_toArray, List.set_cons_zero, List.set_cons_succ])
        clear hHeld
        generalize v.drew = d at *
        refine h_call (i := 0) (fun y : World => blk y w.heap.size = some (.cells #[.int .i64 r, .int .i64 c, .slice a len cap] 24 (0, 0))) (fun _ h => h) (gf_new_below d) rfl (by kernel_rfl) rfl ?_ ?_
        · go_simp <;> with_reducible rfl
        rintro e y11 ⟨rfl, hgf, hy⟩
        obtain ⟨p, hp⟩ : ∃ p, d.heap.size = p := ⟨_, rfl⟩
        rw [hp] at hgf ⊢
        have hgfh := Lib.hid hgf
        have kW_y11 := Lib.hid (below_step kW_d.out kW_d.out.size hy)
        refine ⟨_, rfl, hS.out _ kW_y11.out, ?_⟩
        clear hy hgf hp
        refine h_call (i := 3) (fun y : World => blk y w.heap.size = some (.cells #[.int .i64 r, .int .i64 c, .slice a len cap] 24 (0, 0))) (fun _ h => h) (kap.out p y11) rfl (by kernel_rfl) rfl ?_ ?_
        · go_simp <;> with_reducible rfl
        rintro e y12 ⟨rfl, hy⟩
        have kW_y12 := Lib.hid (below_step kW_y11.out kW_y11.out.size hy)
        refine ⟨_, rfl, hS.out _ kW_y12.out, ?_⟩
        clear hy
        have hHeld : (fun y : World => blk y w.heap.size = some (.cells #[.int .i64 r, .int .i64 c, .slice a len cap] 24 (0, 0))) y12 := hS.out _ kW_y12.out
        first
          | (refine h_run (i := 4) (v := ?_) hHeld rfl (by kernel_rfl) (by kernel_rfl) (by kernel_rfl) ?_ ?_ ?_
             rotate_left
             · rfl
             · (intro x hSx; (try dsimp only at hSx); go_simp <;> with_reducible rfl)
             simp only [Act.put, List.setIfInBounds_toArray, List.set_cons_zero, List.set_cons_succ])
          | (refine h_skip (i := 4) hHeld rfl (by kernel_rfl) (by kernel_rfl) (by kernel_rfl) ?_ ?_
             · rfl
             simp only [Act.put, List.setIfInBounds_toArray, List.set_cons_zero, List.set_cons_succ])
        first
          | (refine h_run (i := 5) (v := ?_) hHeld rfl (by kernel_rfl) (by kernel_rfl) (by kernel_rfl) ?_ ?_ ?_
             rotate_left
             · rfl
             · (intro x hSx; (try dsimp only at hSx); go_simp <;> with_reducible rfl)
             simp only [Act.put, List.setIfInBounds_toArray, List.set_cons_zero, List.set_cons_succ])
          | (refine h_skip (i := 5) hHeld rfl (by kernel_rfl) (by kernel_rfl) (by kernel_rfl) ?_ ?_
             · rfl
             simp only [Act.put, List.setIfInBounds_toArray, List.set_cons_zero, List.set_cons_succ])
        first
          | (refine h_run (i := 6) (v := ?_) hHeld rfl (by kernel_rfl) (by kernel_rfl) (by kernel_rfl) ?_ ?_ ?_
             rotate_left
             · rfl
             · (intro x hSx; (try dsimp only at hSx); go_simp <;> with_reducible rfl)
             simp only [Act.put, List.setIfInBounds_toArray, List.set_cons_zero, List.set_cons_succ])
          | (refine h_skip (i := 6) hHeld rfl (by kernel_rfl) (by kernel_rfl) (by kernel_rfl) ?_ ?_
             · rfl
             simp only [Act.put, List.setIfInBounds_toArray, List.set_cons_zero, List.set_cons_succ])
        first
          | (refine h_run (i := 7) (v := ?_) hHeld rfl (by kernel_rfl) (by kernel_rfl) (by kernel_rfl) ?_ ?_ ?_
             rotate_left
             · rfl
             · (intro x hSx; (try dsimp only at hSx); go_simp <;> with_reducible rfl)
             simp only [Act.put, List.setIfInBounds_toArray, List.set_cons_zero, List.set_cons_succ])
          | (refine h_skip (i := 7) hHeld rfl (by kernel_rfl) (by kernel_rfl) (by kernel_rfl) ?_ ?_
             · rfl
             simp only [Act.put, List.setIfInBounds_toArray, List.set_cons_zero, List.set_cons_succ])
        first
          | (refine h_run (i := 8) (v := ?_) hHeld rfl (by kernel_rfl) (by kernel_rfl) (by kernel_rfl) ?_ ?_ ?_
             rotate_left
             · rfl
             · (intro x hSx; (try dsimp only at hSx); go_simp <;> with_reducible rfl)
             simp only [Act.put, List.setIfInBounds_toArray, List.set_cons_zero, List.set_cons_succ])
          | (refine h_skip (i := 8) hHeld rfl (by kernel_rfl) (by kernel_rfl) (by kernel_rfl) ?_ ?_
             · rfl
             simp only [Act.put, List.setIfInBounds_toArray, List.set_cons_zero, List.set_cons_succ])
        clear hHeld
        refine h_done (by kernel_rfl) ?_
        have bm := hS.out _ kW_y12.out
        go_wp2_with fail
        refine (l_ref r c a len cap y12).mono ?_
        rintro e y13 ⟨rfl, hy⟩
        have kW_y13 := Lib.hid (below_step kW_y12.out kW_y12.out.size hy)
        clear hy bm
        go_wp2_with fail
        refine (krt.out y13).mono ?_
        rintro e y14 ⟨rfl, hy⟩
        have kW_y14 := Lib.hid (below_step kW_y13.out kW_y13.out.size hy)
        clear hy
        cases ba with
        | false =>
          clear hno
          have hlast := Lib.hid (hfin.out _ kW_y14.out)
          go_wp2_with fail
          go_ret
          exact ⟨rfl, hlast.out⟩
        | true =>
          have hne := beq_i (hno.resolve_left (by simp))
          have bm := hS.out _ kW_y14.out
          have c1 : y14.cell? ⟨w.heap.size, 1, none⟩ = some (.int .i64 c) := (cell_of_block (blk_heap bm)).trans rfl
          clear hno
          have hlast := Lib.hid (hfin.out _ kW_y14.out)
          go_wp2_with fail
          go_ret
          exact ⟨rfl, hlast.out⟩
      have hbt : ba = true := by cases ba with | true => rfl | false => exact absurd (.inl rfl) hno
      have hmc : (m : Int) = c := Decidable.byContradiction fun h => hno (.inr h)
      subst hbt
      obtain ⟨R, C, F, hx⟩ := hrx.out hbah.out
      obtain ⟨rfl, rfl, rfl, hR, hC, hmA, hbF, hnA, hcA⟩ := hx
      obtain rfl : m = C := Int.ofNat.inj hmc
      have hmAh := Lib.hid hmA
      have t2 := bne_cast_f m
      clear hno hmc hmA hbah hrx hnA
      rcases first_no (fun j => L j = L 0) m with hall | ⟨q, hq, hbad, hbef⟩
      rotate_left
      · have hq0 : 0 < q := by
          rcases Nat.eq_zero_or_pos q with h | h
          · subst h; exact absurd rfl hbad
          · exact h
        have hsm : smB L m = false := by cases hs : smB L m with | false => rfl | true => exact absurd ((smB_all L m).1 hs q hq) hbad
        rw [hsm]
        have kap := Lib.hid (fun (p : Nat) y (hl : LensAt y a1 m L) => m_apply_len (.pointer (some ⟨p, 0, none⟩)) R m q a a1 cap cap1 L y hl hR hC hq0 hq hbef hbad)
        clear hbad hbef hsm
        refine h_begin 9 (fun y : World => blk y w.heap.size = some (.cells #[.int .i64 (R : Nat), .int .i64 (m : Nat), .slice a (R * m) cap] 24 (0, 0))) rfl (by kernel_rfl) (hS.out _ kW_d.out) ?_
        have hHeld : (fun y : World => blk y w.heap.size = some (.cells #[.int .i64 (R : Nat), .int .i64 (m : Nat), .slice a (R * m) cap] 24 (0, 0))) v.drew := hS.out _ kW_d.out
        first
          | (refine h_run (i := 1) (v := ?_) hHeld rfl (by kernel_rfl) (by kernel_rfl) (by kernel_rfl) ?_ ?_ ?_
             rotate_left
             · rfl
             · (intro x hSx; (try dsimp only at hSx); go_simp <;> with_reducible rfl)
             simp only [Act.put, List.setIfInBounds_toArray, List.set_cons_zero, List.set_cons_succ])
          | (refine h_skip (i := 1) hHeld rfl (by kernel_rfl) (by kernel_rfl) (by kernel_rfl) ?_ ?_
             · rfl
             simp only [Act.put, List.setIfInBounds_toArray, List.set_cons_zero, List.set_cons_succ])
        first
          | (refine h_run (i := 2) (v := ?_) hHeld rfl (by kernel_rfl) (by kernel_rfl) (by kernel_rfl) ?_ ?_ ?_
             rotate_left
             · rfl
             · (intro x hSx; (try dsimp only at hSx); go_simp <;> with_reducible rfl)
             simp only [Act.put, List.setIfInBounds_toArray, List.set_cons_zero, List.set_cons_succ])
          | (refine h_skip (i := 2) hHeld rfl (by kernel_rfl) (by kernel_rfl) (by kernel_rfl) ?_ ?_
             · rfl
             simp only [Act.put, List.setIfInBounds_toArray, List.set_cons_zero, List.set_cons_succ])
        clear hHeld
        generalize v.drew = d at *
        refine h_call (i := 0) (fun y : World => blk y w.heap.size = some (.cells #[.int .i64 (R : Nat), .int .i64 (m : Nat), .slice a (R * m) cap] 24 (0, 0))) (fun _ h => h) (gf_new_below d) rfl (by kernel_rfl) rfl ?_ ?_
        · go_simp <;> with_reducible rfl
        rintro e y11 ⟨rfl, hgf, hy⟩
        obtain ⟨p, hp⟩ : ∃ p, d.heap.size = p := ⟨_, rfl⟩
        rw [hp] at hgf ⊢
        have hgfh := Lib.hid hgf
        have kW_y11 := Lib.hid (below_step kW_d.out kW_d.out.size hy)
        refine ⟨_, rfl, hS.out _ kW_y11.out, ?_⟩
        clear hy hgf hp
        refine h_call (i := 3) (fun y : World => blk y w.heap.size = some (.cells #[.int .i64 (R : Nat), .int .i64 (m : Nat), .slice a (R * m) cap] 24 (0, 0))) (fun _ h => h) (kap.out p y11 (hLh.out.below (hfin.out _ kW_y11.out))) rfl (by kernel_rfl) rfl ?_ ?_
        · go_simp <;> with_reducible rfl
        rintro e y12 ⟨rfl, hy⟩
        have kW_y12 := Lib.hid (below_step kW_y11.out kW_y11.out.size hy)
        refine ⟨_, rfl, hS.out _ kW_y12.out, ?_⟩
        clear hy
        have ky12_y12 : Hid (Below y12.heap.size y12 y12) := hide (Below.refl _ _)
        have hHeld : (fun y : World => blk y w.heap.size = some (.cells #[.int .i64 (R : Nat), .int .i64 (m : Nat), .slice a (R * m) cap] 24 (0, 0))) y12 := hS.out _ kW_y12.out
        first
          | (refine h_run (i := 4) (v := ?_) hHeld rfl (by kernel_rfl) (by kernel_rfl) (by kernel_rfl) ?_ ?_ ?_
             rotate_left
             · rfl
             · (intro x hSx; (try dsimp only at hSx); go_simp <;> with_reducible rfl)
             simp only [Act.put, List.setIfInBounds_toArray, List.set_cons_zero, List.set_cons_succ])
          | (refine h_skip (i := 4) hHeld rfl (by kernel_rfl) (by kernel_rfl) (by kernel_rfl) ?_ ?_
             · rfl
             simp only [Act.put, List.setIfInBounds_toArray, List.set_cons_zero, List.set_cons_succ])
        first
          | (refine h_run (i := 5) (v := ?_) hHeld rfl (by kernel_rfl) (by kernel_rfl) (by kernel_rfl) ?_ ?_ ?_
             rotate_left
             · rfl
             · (intro x hSx; (try dsimp only at hSx); go_simp <;> with_reducible rfl)
             simp only [Act.put, List.setIfInBounds_toArray, List.set_cons_zero, List.set_cons_succ])
          | (refine h_skip (i := 5) hHeld rfl (by kernel_rfl) (by kernel_rfl) (by kernel_rfl) ?_ ?_
             · rfl
             simp only [Act.put, List.setIfInBounds_toArray, List.set_cons_zero, List.set_cons_succ])
        first
          | (refine h_run (i := 6) (v := ?_) hHeld rfl (by kernel_rfl) (by kernel_rfl) (by kernel_rfl) ?_ ?_ ?_
             rotate_left
             · rfl
             · (intro x hSx; (try dsimp only at hSx); go_simp <;> with_reducible rfl)
             simp only [Act.put, List.setIfInBounds_toArray, List.set_cons_zero, List.set_cons_succ])
          | (refine h_skip (i := 6) hHeld rfl (by kernel_rfl) (by kernel_rfl) (by kernel_rfl) ?_ ?_
             · rfl
             simp only [Act.put, List.setIfInBounds_toArray, List.set_cons_zero, List.set_cons_succ])
        first
          | (refine h_run (i := 7) (v := ?_) hHeld rfl (by kernel_rfl) (by kernel_rfl) (by kernel_rfl) ?_ ?_ ?_
             rotate_left
             · rfl
             · (intro x hSx; (try dsimp only at hSx); go_simp <;> with_reducible rfl)
             simp only [Act.put, List.setIfInBounds_toArray, List.set_cons_zero, List.set_cons_succ])
          | (refine h_skip (i := 7) hHeld rfl (by kernel_rfl) (by kernel_rfl) (by kernel_rfl) ?_ ?_
             · rfl
             simp only [Act.put, List.setIfInBounds_toArray, List.set_cons_zero, List.set_cons_succ])
        first
          | (refine h_run (i := 8) (v := ?_) hHeld rfl (by kernel_rfl) (by kernel_rfl) (by kernel_rfl) ?_ ?_ ?_
             rotate_left
             · rfl
             · (intro x hSx; (try dsimp only at hSx); go_simp <;> with_reducible rfl)
             simp only [Act.put, List.setIfInBounds_toArray, List.set_cons_zero, List.set_cons_succ])
          | (refine h_skip (i := 8) hHeld rfl (by kernel_rfl) (by kernel_rfl) (by kernel_rfl) ?_ ?_
             · rfl
             simp only [Act.put, List.setIfInBounds_toArray, List.set_cons_zero, List.set_cons_succ])
        clear hHeld
        refine h_done (by kernel_rfl) ?_
        have bm := hS.out _ kW_y12.out
        go_wp2_with fail
        refine (l_ref R m a (R * m) cap y12).mono ?_
        rintro e y13 ⟨rfl, hy⟩
        have kW_y13 := Lib.hid (below_step kW_y12.out kW_y12.out.size hy)
        have ky12_y13 := Lib.hid (below_step ky12_y12.out ky12_y12.out.size hy)
        clear hy bm
        go_wp2_with fail
        refine (krt.out y13).mono ?_
        rintro e y14 ⟨rfl, hy⟩
        have kW_y14 := Lib.hid (below_step kW_y13.out kW_y13.out.size hy)
        have ky12_y14 := Lib.hid (below_step ky12_y13.out ky12_y13.out.size hy)
        clear hy
        have bm := hS.out _ kW_y14.out
        have c1 : y14.cell? ⟨w.heap.size, 1, none⟩ = some (.int .i64 (m : Nat)) := (cell_of_block (blk_heap bm)).trans rfl
        have hlast := Lib.hid (hfin.out _ kW_y14.out)
        go_wp2_with fail
        go_ret
        exact ⟨rfl, hlast.out⟩
      · have hsm : smB L m = true := (smB_all L m).2 hall
        rw [hsm]
        obtain ⟨n9, hn9⟩ : ∃ n9, L 0 = n9 := ⟨_, rfl⟩
        obtain ⟨n, hne⟩ : ∃ n, n = if m = 0 then 0 else n9 := ⟨_, rfl⟩
        have hLn : ∀ i, i < m → L i = n := fun i hi => by rw [hall i hi, hn9, hne, if_neg (by omega)]
        have hn60 : n ≤ 60 := by
          by_cases h : m = 0
          · rw [hne, if_pos h]; omega
          · rw [hne, if_neg h, ← hn9]; exact h60.out 0 (by omega)
        have hn0 : m = 0 → n = 0 := fun h => by rw [hne, if_pos h]
        have hVw := Lib.hid (hVh.out n hLn)
        have kap := Lib.hid (fun (p : Nat) y (hp : IsGf y p) (hm : MAt y a R m F) (hv : RowsAt y a1 m n V) => m_apply p R m n a a1 cap cap1 F V y hp hm hv hbF hVbh.out hR hC hcA (by omega) hn0)
        have hn0h := Lib.hid hn0
        clear hsm hall hne hLn hn9 hn0 hcA
        refine h_begin 9 (fun y : World => blk y w.heap.size = some (.cells #[.int .i64 (R : Nat), .int .i64 (m : Nat), .slice a (R * m) cap] 24 (0, 0))) rfl (by kernel_rfl) (hS.out _ kW_d.out) ?_
        have hHeld : (fun y : World => blk y w.heap.size = some (.cells #[.int .i64 (R : Nat), .int .i64 (m : Nat), .slice a (R * m) cap] 24 (0, 0))) v.drew := hS.out _ kW_d.out
        first
          | (refine h_run (i := 1) (v := ?_) hHeld rfl (by kernel_rfl) (by kernel_rfl) (by kernel_rfl) ?_ ?_ ?_
             rotate_left
             · rfl
             · (intro x hSx; (try dsimp only at hSx); go_simp <;> with_reducible rfl)
             simp only [Act.put, List.setIfInBounds_toArray, List.set_cons_zero, List.set_cons_succ])
          | (refine h_skip (i := 1) hHeld rfl (by kernel_rfl) (by kernel_rfl) (by kernel_rfl) ?_ ?_
             · rfl
             simp only [Act.put, List.setIfInBounds_toArray, List.set_cons_zero, List.set_cons_succ])
        first
          | (refine h_run (i := 2) (v := ?_) hHeld rfl (by kernel_rfl) (by kernel_rfl) (by kernel_rfl) ?_ ?_ ?_
             rotate_left
             · rfl
             · (intro x hSx; (try dsimp only at hSx); go_simp <;> with_reducible rfl)
             simp only [Act.put, List.setIfInBounds_toArray, List.set_cons_zero, List.set_cons_succ])
          | (refine h_skip (i := 2) hHeld rfl (by kernel_rfl) (by kernel_rfl) (by kernel_rfl) ?_ ?_
             · rfl
             simp only [Act.put, List.setIfInBounds_toArray, List.set_cons_zero, List.set_cons_succ])
        clear hHeld
        generalize v.drew = d at *
        refine h_call (i := 0) (fun y : World => blk y w.heap.size = some (.cells #[.int .i64 (R : Nat), .int .i64 (m : Nat), .slice a (R * m) cap] 24 (0, 0))) (fun _ h => h) (gf_new_below d) rfl (by kernel_rfl) rfl ?_ ?_
        · go_simp <;> with_reducible rfl
        rintro e y11 ⟨rfl, hgf, hy⟩
        obtain ⟨p, hp⟩ : ∃ p, d.heap.size = p := ⟨_, rfl⟩
        rw [hp] at hgf ⊢
        have hgfh := Lib.hid hgf
        have kW_y11 := Lib.hid (below_step kW_d.out kW_d.out.size hy)
        refine ⟨_, rfl, hS.out _ kW_y11.out, ?_⟩
        clear hy hgf hp
        refine h_call (i := 3) (fun y : World => blk y w.heap.size = some (.cells #[.int .i64 (R : Nat), .int .i64 (m : Nat), .slice a (R * m) cap] 24 (0, 0))) (fun _ h => h) (kap.out p y11 hgfh.out (hmAh.out.below (hfin.out _ kW_y11.out)) (hVw.out.below (hfin.out _ kW_y11.out))) rfl (by kernel_rfl) rfl ?_ ?_
        · go_simp <;> with_reducible rfl
        rintro e y12 ⟨g, rfl, _, hrows, hy⟩
        have hrw := Lib.hid (fun z (hz : Below y12.heap.size y12 z) => hrows.below hz)
        have kW_y12 := Lib.hid (below_step kW_y11.out kW_y11.out.size hy)
        refine ⟨_, rfl, hS.out _ kW_y12.out, ?_⟩
        clear hy
        have ky12_y12 : Hid (Below y12.heap.size y12 y12) := hide (Below.refl _ _)
        have hHeld : (fun y : World => blk y w.heap.size = some (.cells #[.int .i64 (R : Nat), .int .i64 (m : Nat), .slice a (R * m) cap] 24 (0, 0))) y12 := hS.out _ kW_y12.out
        first
          | (refine h_run (i := 4) (v := ?_) hHeld rfl (by kernel_rfl) (by kernel_rfl) (by kernel_rfl) ?_ ?_ ?_
             rotate_left
             · rfl
             · (intro x hSx; (try dsimp only at hSx); go_simp <;> with_reducible rfl)
             simp only [Act.put, List.setIfInBounds_toArray, List.set_cons_zero, List.set_cons_succ])
          | (refine h_skip (i := 4) hHeld rfl (by kernel_rfl) (by kernel_rfl) (by kernel_rfl) ?_ ?_
             · rfl
             simp only [Act.put, List.setIfInBounds_toArray, List.set_cons_zero, List.set_cons_succ])
        first
          | (refine h_run (i := 5) (v := ?_) hHeld rfl (by kernel_rfl) (by kernel_rfl) (by kernel_rfl) ?_ ?_ ?_
             rotate_left
             · rfl
             · (intro x hSx; (try dsimp only at hSx); go_simp <;> with_reducible rfl)
             simp only [Act.put, List.setIfInBounds_toArray, List.set_cons_zero, List.set_cons_succ])
          | (refine h_skip (i := 5) hHeld rfl (by kernel_rfl) (by kernel_rfl) (by kernel_rfl) ?_ ?_
             · rfl
             simp only [Act.put, List.setIfInBounds_toArray, List.set_cons_zero, List.set_cons_succ])
        first
          | (refine h_run (i := 6) (v := ?_) hHeld rfl (by kernel_rfl) (by kernel_rfl) (by kernel_rfl) ?_ ?_ ?_
             rotate_left
             · rfl
             · (intro x hSx; (try dsimp only at hSx); go_simp <;> with_reducible rfl)
             simp only [Act.put, List.setIfInBounds_toArray, List.set_cons_zero, List.set_cons_succ])
          | (refine h_skip (i := 6) hHeld rfl (by kernel_rfl) (by kernel_rfl) (by kernel_rfl) ?_ ?_
             · rfl
             simp only [Act.put, List.setIfInBounds_toArray, List.set_cons_zero, List.set_cons_succ])
        first
          | (refine h_run (i := 7) (v := ?_) hHeld rfl (by kernel_rfl) (by kernel_rfl) (by kernel_rfl) ?_ ?_ ?_
             rotate_left
             · rfl
             · (intro x hSx; (try dsimp only at hSx); go_simp <;> with_reducible rfl)
             simp only [Act.put, List.setIfInBounds_toArray, List.set_cons_zero, List.set_cons_succ])
          | (refine h_skip (i := 7) hHeld rfl (by kernel_rfl) (by kernel_rfl) (by kernel_rfl) ?_ ?_
             · rfl
             simp only [Act.put, List.setIfInBounds_toArray, List.set_cons_zero, List.set_cons_succ])
        first
          | (refine h_run (i := 8) (v := ?_) hHeld rfl (by kernel_rfl) (by kernel_rfl) (by kernel_rfl) ?_ ?_ ?_
             rotate_left
             · rfl
             · (intro x hSx; (try dsimp only at hSx); go_simp <;> with_reducible rfl)
             simp only [Act.put, List.setIfInBounds_toArray, List.set_cons_zero, List.set_cons_succ])
          | (refine h_skip (i := 8) hHeld rfl (by kernel_rfl) (by kernel_rfl) (by kernel_rfl) ?_ ?_
             · rfl
             simp only [Act.put, List.setIfInBounds_toArray, List.set_cons_zero, List.set_cons_succ])
        clear hHeld
        refine h_done (by kernel_rfl) ?_
        have bm := hS.out _ kW_y12.out
        go_wp2_with fail
        refine (l_ref R m a (R * m) cap y12).mono ?_
        rintro e y13 ⟨rfl, hy⟩
        have kW_y13 := Lib.hid (below_step kW_y12.out kW_y12.out.size hy)
        have ky12_y13 := Lib.hid (below_step ky12_y12.out ky12_y12.out.size hy)
        clear hy bm
        go_wp2_with fail
        refine (krt.out y13).mono ?_
        rintro e y14 ⟨rfl, hy⟩
        have kW_y14 := Lib.hid (below_step kW_y13.out kW_y13.out.size hy)
        have ky12_y14 := Lib.hid (below_step ky12_y13.out ky12_y13.out.size hy)
        clear hy
        have bm := hS.out _ kW_y14.out
        have c1 : y14.cell? ⟨w.heap.size, 1, none⟩ = some (.int .i64 (m : Nat)) := (cell_of_block (blk_heap bm)).trans rfl
        have c0 : y14.cell? ⟨w.heap.size, 0, none⟩ = some (.int .i64 (R : Nat)) := (cell_of_block (blk_heap bm)).trans rfl
        have t3 := bne_cast_f R
        have hVy := Lib.hid (hVw.out.below (hfin.out _ kW_y14.out))
        have hrX : Hid (RowsAt y14 (some ⟨g, 0, none⟩) R n (mlF F V m)) := hide (hrw.out _ ky12_y14.out)
        go_upto_region 19 with (fail)
        clear t3 t2 bm c0 c1
        go_upto_if 94 with (fail)
        go_cut [9] (fun v9 wx => v9 = .int .i64 (n : Nat) ∧ wx = y14)
        case first =>
          by_cases hm0 : m = 0
          · have g0 : decide ((0 : Int) < (m : Int)) = false := decide_eq_false (by omega)
            have g1 : decide (0 < m) = false := decide_eq_false (by omega)
            have hnn := hn0h.out hm0
            have g2 : ¬ 0 < m := by omega
            have g3 : ¬ (0 : Int) < (m : Int) := by omega
            clear hm0
            go_wp2_with fail
            go_meet
            exact ⟨by rw [hnn]; rfl, rfl⟩
          · have g0 : decide ((0 : Int) < (m : Int)) = true := decide_eq_true (by omega)
            have g1 : decide (0 < m) = true := decide_eq_true (by omega)
            have m0 : (0 : Int) < (m : Int) := by omega
            obtain ⟨b2, o2, x2, k2, hse2, hc2, _⟩ := hVy.out.get (show 0 < m by omega)
            subst hse2
            rw [Nat.add_zero] at hc2
            have g2 : 0 < m := by omega
            clear hm0
            go_wp2_with fail
            go_meet
            exact ⟨rfl, rfl⟩
        case rest =>
          obtain ⟨rfl, rfl⟩ := hcut
          obtain ⟨X, hXe⟩ : ∃ X, wc = X := ⟨_, rfl⟩
          have kW_X : Hid (Below W.heap.size W X) := hide (by rw [← hXe]; exact kW_y14.out)
          have hrX2 : Hid (RowsAt X (some ⟨g, 0, none⟩) R n (mlF F V m)) := hide (by rw [← hXe]; exact hrX.out)
          have hVX : Hid (RowsAt X a1 m n V) := hide (hVw.out.below (hfin.out _ kW_X.out))
          have hmX : Hid (MAt X a R m F) := hide (hmAh.out.below (hfin.out _ kW_X.out))
          rw [hXe]
          clear hXe hrX
          have hmk : ∀ x : World, (Instr.makeSlice 22 (.int .i64 (n : Int)) (.int .i64 (n : Int))).run Try.prog x = .ok (.slice (some ⟨x.heap.size, 0, none⟩) n n) (x.alloc (.cells (madeCells #[.int .u8 0] n) 5)) := fun x => make_row (P := Try.prog) Try.underlying22 info8 n (by omega) (by decide) x
          have hmkh := Lib.hid hmk
          clear hmk
          have hwX : w.heap.size < X.heap.size := by have := kW_X.out.size; omega
          have hSX : Hid (∀ y, Below X.heap.size X y → blk y w.heap.size = some (.cells #[.int .i64 (R : Nat), .int .i64 (m : Nat), .slice a (R * m) cap] 24 (0, 0))) := hide (fun y hy => hS.out y (kW_X.out.trans (hy.mono kW_X.out.size)))
          have hfX : Hid (∀ y, Below X.heap.size X y → Below w.heap.size w y) := hide (fun y hy => hfin.out y (kW_X.out.trans (hy.mono kW_X.out.size)))
          have kat := Lib.hid (fun i k y (h : MAt y a R m F) (hi : i < R) (hk : k < m) => x_at R m i k F a cap y h hi hk hR hC)
          have krf := Lib.hid (fun y => l_ref R m a (R * m) cap y)
          obtain ⟨N, hNe⟩ : ∃ N, R * m = N := ⟨_, rfl⟩
          rw [hNe] at hSX kat krf
          clear hNe
          go_upto_region 23 with (fail)
          go_loopw [10] (fun v10 wr => ∃ i : Nat, i ≤ R ∧ v10 = .int .i64 (i : Nat) ∧ Hid (Below X.heap.size X wr)) (fun v10 _ => R - (intOf v10).toNat)
          case atStart => exact ⟨0, Nat.zero_le _, rfl, hide (Below.refl _ _)⟩
          case round =>
            obtain ⟨i, hi, rfl, hl⟩ := hrel
            have b2 := hSX.out _ hl.out
            have c0 : wr.cell? ⟨w.heap.size, 0, none⟩ = some (.int .i64 (R : Nat)) := (cell_of_block (blk_heap b2)).trans rfl
            by_cases hiR : i < R
            · have i1 : (i : Int) < (R : Int) := by omega
              have hmko := hmkh.out
              go_upto_region 26 with (fail)
              clear c0 b2 hmko
              have hr0 : Hid (BRow (wr.alloc (.cells (madeCells #[.int .u8 0] n) 5)) wr.heap.size n (fun j => dtF F V i j 0)) := hide ((brow_made wr n).congr (fun j _ => (dt_zero F V i j).symm))
              have hl0 : Hid (Below X.heap.size X (wr.alloc (.cells (madeCells #[.int .u8 0] n) 5))) := hide (hl.out.alloc hl.out.size _)
              have hXq : X.heap.size ≤ wr.heap.size := hl.out.size
              generalize hqe : wr.heap.size = q at *
              clear hqe hl
              generalize wr.alloc _ = X3 at *
              go_upto_region 27 with (fail)
              go_loopw [12] (fun v12 wr => ∃ k : Nat, k ≤ m ∧ v12 = .int .i64 (k : Nat) ∧ Hid (BRow wr q n (fun j => dtF F V i j k)) ∧ Hid (Below X.heap.size X wr)) (fun v12 _ => m - (intOf v12).toNat)
              case atStart => exact ⟨0, Nat.zero_le _, rfl, hr0, hl0⟩
              case round =>
                obtain ⟨k, hk, rfl, hr1, hl1⟩ := hrel
                clear hr0 hl0
                have b2 := hSX.out _ hl1.out
                have c1 : wr.cell? ⟨w.heap.size, 1, none⟩ = some (.int .i64 (m : Nat)) := (cell_of_block (blk_heap b2)).trans rfl
                by_cases hkC : k < m
                · have i2 : (k : Int) < (m : Int) := by omega
                  have hr2 : Hid (BRow wr q n (fun j => wtF F V i k 0 j)) := hide (hr1.out.congr (fun j _ => wt_zero F V i k j))
                  have hl2 := hl1
                  go_upto_region 30 with (fail)
                  clear c1 b2
                  generalize wr = X4 at *
                  go_loopw [13] (fun v13 wr => ∃ t : Nat, t ≤ n ∧ v13 = .int .i64 (t : Nat) ∧ Hid (BRow wr q n (fun j => wtF F V i k t j)) ∧ Hid (Below X.heap.size X wr)) (fun v13 _ => n - (intOf v13).toNat)
                  case atStart => exact ⟨0, Nat.zero_le _, rfl, hr2, hl2⟩
                  case round =>
                    obtain ⟨t, ht, rfl, hr3, hl3⟩ := hrel
                    clear hr2 hl2 hr1 hl1
                    by_cases htn : t < n
                    · have i3 : (t : Int) < (n : Int) := by omega
                      obtain ⟨bb, oo, xx, kk, hse, hcc, hyy⟩ := hVX.out.get hkC
                      obtain ⟨b7, o7, hs7, hc7⟩ := hyy.get htn
                      subst hse hs7
                      have hS3 : Hid (∀ y, Below X.heap.size X y → (fun y : World => blk y w.heap.size = some (.cells #[.int .i64 (R : Nat), .int .i64 (m : Nat), .slice a (N) cap] 24 (0, 0)) ∧ y.cell? ⟨bb, oo + k, none⟩ = some (.slice (some ⟨b7, o7, none⟩) n kk) ∧ y.cell? ⟨b7, o7 + t, none⟩ = some (.int .u8 (V k t : Nat))) y) := hide (fun y hy => ⟨hSX.out y hy, (hy.cell (p := ⟨bb, oo + k, none⟩) (cell_block_lt hcc)).trans hcc, (hy.cell (p := ⟨b7, o7 + t, none⟩) (cell_block_lt hc7)).trans hc7⟩)
                      have hma := Lib.hid (fun y (hy : Below X.heap.size X y) => kat.out i k y (hmX.out.below hy) hiR hkC)
                      have hF8 := hbF i k
                      have hV8 := hVbh.out k t
                      have kmu := Lib.hid (fun y => ref_mul (F i k) (V k t) y hF8 hV8)
                      have hxo := u8_xor_nat (dtF F V i t k) (rmul (F i k) (V k t)) (dt_lt _ _ _ _ _) (rmul_lt _ _)
                      have hnx := Lib.hid (fun j => wt_next F V i k t j)
                      have hat := Lib.hid (wt_at F V i k t)
                      obtain ⟨xn, hxn⟩ : ∃ xn, dtF F V i t k ^^^ rmul (F i k) (V k t) = xn := ⟨_, rfl⟩
                      rw [hxn] at hxo hnx
                      clear hxn hyy hcc hc7
                      generalize rmul (F i k) (V k t) = xm at *
                      generalize V k t = xv at *
                      generalize F i k = xf at *
                      generalize dtF F V i t k = xo at *
                      go_upto_region 32 with (fail)
                      have hr4 : Hid (BRow wr.drew q n (fun j => wtF F V i k t j)) := hide (hr3.out.stay rfl)
                      have kX_d : Hid (Below X.heap.size X wr.drew) := hide (below_drewN hl3.out 1)
                      refine h_begin 22 (fun y : World => blk y w.heap.size = some (.cells #[.int .i64 (R : Nat), .int .i64 (m : Nat), .slice a (N) cap] 24 (0, 0)) ∧ y.cell? ⟨bb, oo + k, none⟩ = some (.slice (some ⟨b7, o7, none⟩) n kk) ∧ y.cell? ⟨b7, o7 + t, none⟩ = some (.int .u8 (xv : Nat))) rfl (by kernel_rfl) (hS3.out _ kX_d.out) ?_
                      have hHeld : (fun y : World => blk y w.heap.size = some (.cells #[.int .i64 (R : Nat), .int .i64 (m : Nat), .slice a (N) cap] 24 (0, 0)) ∧ y.cell? ⟨bb, oo + k, none⟩ = some (.slice (some ⟨b7, o7, none⟩) n kk) ∧ y.cell? ⟨b7, o7 + t, none⟩ = some (.int .u8 (xv : Nat))) wr.drew := hS3.out _ kX_d.out
                      first
                        | (refine h_run (i := 0) (v := ?_) hHeld rfl (by kernel_rfl) (by kernel_rfl) (by kernel_rfl) ?_ ?_ ?_
                           rotate_left
                           · rfl
                           · (intro x hSx; (try dsimp only at hSx); go_simp <;> with_reducible rfl)
                           simp only [Act.put, List.setIfInBounds_toArray, List.set_cons_zero, List.set_cons_succ])
                        | (refine h_skip (i := 0) hHeld rfl (by kernel_rfl) (by kernel_rfl) (by kernel_rfl) ?_ ?_
                           · rfl
                           simp only [Act.put, List.setIfInBounds_toArray, List.set_cons_zero, List.set_cons_succ])
                      first
                        | (refine h_run (i := 1) (v := ?_) hHeld rfl (by kernel_rfl) (by kernel_rfl) (by kernel_rfl) ?_ ?_ ?_
                           rotate_left
                           · rfl
                           · (intro x hSx; (try dsimp only at hSx); go_simp <;> with_reducible rfl)
                           simp only [Act.put, List.setIfInBounds_toArray, List.set_cons_zero, List.set_cons_succ])
                        | (refine h_skip (i := 1) hHeld rfl (by kernel_rfl) (by kernel_rfl) (by kernel_rfl) ?_ ?_
                           · rfl
                           simp only [Act.put, List.setIfInBounds_toArray, List.set_cons_zero, List.set_cons_succ])
                      first
                        | (refine h_run (i := 2) (v := ?_) hHeld rfl (by kernel_rfl) (by kernel_rfl) (by kernel_rfl) ?_ ?_ ?_
                           rotate_left
                           · rfl
                           · (intro x hSx; (try dsimp only at hSx); go_simp <;> with_reducible rfl)
                           simp only [Act.put, List.setIfInBounds_toArray, List.set_cons_zero, List.set_cons_succ])
                        | (refine h_skip (i := 2) hHeld rfl (by kernel_rfl) (by kernel_rfl) (by kernel_rfl) ?_ ?_
                           · rfl
                           simp only [Act.put, List.setIfInBounds_toArray, List.set_cons_zero, List.set_cons_succ])
                      first
                        | (refine h_run (i := 3) (v := ?_) hHeld rfl (by kernel_rfl) (by kernel_rfl) (by kernel_rfl) ?_ ?_ ?_
                           rotate_left
                           · rfl
                           · (intro x hSx; (try dsimp only at hSx); go_simp <;> with_reducible rfl)
                           simp only [Act.put, List.setIfInBounds_toArray, List.set_cons_zero, List.set_cons_succ])
                        | (refine h_skip (i := 3) hHeld rfl (by kernel_rfl) (by kernel_rfl) (by kernel_rfl) ?_ ?_
                           · rfl
                           simp only [Act.put, List.setIfInBounds_toArray, List.set_cons_zero, List.set_cons_succ])
                      first
                        | (refine h_run (i := 4) (v := ?_) hHeld rfl (by kernel_rfl) (by kernel_rfl) (by kernel_rfl) ?_ ?_ ?_
                           rotate_left
                           · rfl
                           · (intro x hSx; (try dsimp only at hSx); go_simp <;> with_reducible rfl)
                           simp only [Act.put, List.setIfInBounds_toArray, List.set_cons_zero, List.set_cons_succ])
                        | (refine h_skip (i := 4) hHeld rfl (by kernel_rfl) (by kernel_rfl) (by kernel_rfl) ?_ ?_
                           · rfl
                           simp only [Act.put, List.setIfInBounds_toArray, List.set_cons_zero, List.set_cons_succ])
                      first
                        | (refine h_run (i := 6) (v := ?_) hHeld rfl (by kernel_rfl) (by kernel_rfl) (by kernel_rfl) ?_ ?_ ?_
                           rotate_left
                           · rfl
                           · (intro x hSx; (try dsimp only at hSx); go_simp <;> with_reducible rfl)
                           simp only [Act.put, List.setIfInBounds_toArray, List.set_cons_zero, List.set_cons_succ])
                        | (refine h_skip (i := 6) hHeld rfl (by kernel_rfl) (by kernel_rfl) (by kernel_rfl) ?_ ?_
                           · rfl
                           simp only [Act.put, List.setIfInBounds_toArray, List.set_cons_zero, List.set_cons_succ])
                      first
                        | (refine h_run (i := 8) (v := ?_) hHeld rfl (by kernel_rfl) (by kernel_rfl) (by kernel_rfl) ?_ ?_ ?_
                           rotate_left
                           · rfl
                           · (intro x hSx; (try dsimp only at hSx); go_simp <;> with_reducible rfl)
                           simp only [Act.put, List.setIfInBounds_toArray, List.set_cons_zero, List.set_cons_succ])
                        | (refine h_skip (i := 8) hHeld rfl (by kernel_rfl) (by kernel_rfl) (by kernel_rfl) ?_ ?_
                           · rfl
                           simp only [Act.put, List.setIfInBounds_toArray, List.set_cons_zero, List.set_cons_succ])
                      first
                        | (refine h_run (i := 9) (v := ?_) hHeld rfl (by kernel_rfl) (by kernel_rfl) (by kernel_rfl) ?_ ?_ ?_
                           rotate_left
                           · rfl
                           · (intro x hSx; (try dsimp only at hSx); go_simp <;> with_reducible rfl)
                           simp only [Act.put, List.setIfInBounds_toArray, List.set_cons_zero, List.set_cons_succ])
                        | (refine h_skip (i := 9) hHeld rfl (by kernel_rfl) (by kernel_rfl) (by kernel_rfl) ?_ ?_
                           · rfl
                           simp only [Act.put, List.setIfInBounds_toArray, List.set_cons_zero, List.set_cons_succ])
                      first
                        | (refine h_run (i := 11) (v := ?_) hHeld rfl (by kernel_rfl) (by kernel_rfl) (by kernel_rfl) ?_ ?_ ?_
                           rotate_left
                           · rfl
                           · (intro x hSx; (try dsimp only at hSx); go_simp <;> with_reducible rfl)
                           simp only [Act.put, List.setIfInBounds_toArray, List.set_cons_zero, List.set_cons_succ])
                        | (refine h_skip (i := 11) hHeld rfl (by kernel_rfl) (by kernel_rfl) (by kernel_rfl) ?_ ?_
                           · rfl
                           simp only [Act.put, List.setIfInBounds_toArray, List.set_cons_zero, List.set_cons_succ])
                      first
                        | (refine h_run (i := 12) (v := ?_) hHeld rfl (by kernel_rfl) (by kernel_rfl) (by kernel_rfl) ?_ ?_ ?_
                           rotate_left
                           · rfl
                           · (intro x hSx; (try dsimp only at hSx); go_simp <;> with_reducible rfl)
                           simp only [Act.put, List.setIfInBounds_toArray, List.set_cons_zero, List.set_cons_succ])
                        | (refine h_skip (i := 12) hHeld rfl (by kernel_rfl) (by kernel_rfl) (by kernel_rfl) ?_ ?_
                           · rfl
                           simp only [Act.put, List.setIfInBounds_toArray, List.set_cons_zero, List.set_cons_succ])
                      first
                        | (refine h_run (i := 13) (v := ?_) hHeld rfl (by kernel_rfl) (by kernel_rfl) (by kernel_rfl) ?_ ?_ ?_
                           rotate_left
                           · rfl
                           · (intro x hSx; (try dsimp only at hSx); go_simp <;> with_reducible rfl)
                           simp only [Act.put, List.setIfInBounds_toArray, List.set_cons_zero, List.set_cons_succ])
                        | (refine h_skip (i := 13) hHeld rfl (by kernel_rfl) (by kernel_rfl) (by kernel_rfl) ?_ ?_
                           · rfl
                           simp only [Act.put, List.setIfInBounds_toArray, List.set_cons_zero, List.set_cons_succ])
                      first
                        | (refine h_run (i := 14) (v := ?_) hHeld rfl (by kernel_rfl) (by kernel_rfl) (by kernel_rfl) ?_ ?_ ?_
                           rotate_left
                           · rfl
                           · (intro x hSx; (try dsimp only at hSx); go_simp <;> with_reducible rfl)
                           simp only [Act.put, List.setIfInBounds_toArray, List.set_cons_zero, List.set_cons_succ])
                        | (refine h_skip (i := 14) hHeld rfl (by kernel_rfl) (by kernel_rfl) (by kernel_rfl) ?_ ?_
                           · rfl
                           simp only [Act.put, List.setIfInBounds_toArray, List.set_cons_zero, List.set_cons_succ])
                      first
                        | (refine h_run (i := 15) (v := ?_) hHeld rfl (by kernel_rfl) (by kernel_rfl) (by kernel_rfl) ?_ ?_ ?_
                           rotate_left
                           · rfl
                           · (intro x hSx; (try dsimp only at hSx); go_simp <;> with_reducible rfl)
                           simp only [Act.put, List.setIfInBounds_toArray, List.set_cons_zero, List.set_cons_succ])
                        | (refine h_skip (i := 15) hHeld rfl (by kernel_rfl) (by kernel_rfl) (by kernel_rfl) ?_ ?_
                           · rfl
                           simp only [Act.put, List.setIfInBounds_toArray, List.set_cons_zero, List.set_cons_succ])
                      first
                        | (refine h_run (i := 16) (v := ?_) hHeld rfl (by kernel_rfl) (by kernel_rfl) (by kernel_rfl) ?_ ?_ ?_
                           rotate_left
                           · rfl
                           · (intro x hSx; (try dsimp only at hSx); go_simp <;> with_reducible rfl)
                           simp only [Act.put, List.setIfInBounds_toArray, List.set_cons_zero, List.set_cons_succ])
                        | (refine h_skip (i := 16) hHeld rfl (by kernel_rfl) (by kernel_rfl) (by kernel_rfl) ?_ ?_
                           · rfl
                           simp only [Act.put, List.setIfInBounds_toArray, List.set_cons_zero, List.set_cons_succ])
                      first
                        | (refine h_run (i := 17) (v := ?_) hHeld rfl (by kernel_rfl) (by kernel_rfl) (by kernel_rfl) ?_ ?_ ?_
                           rotate_left
                           · rfl
                           · (intro x hSx; (try dsimp only at hSx); go_simp <;> with_reducible rfl)
                           simp only [Act.put, List.setIfInBounds_toArray, List.set_cons_zero, List.set_cons_succ])
                        | (refine h_skip (i := 17) hHeld rfl (by kernel_rfl) (by kernel_rfl) (by kernel_rfl) ?_ ?_
                           · rfl
                           simp only [Act.put, List.setIfInBounds_toArray, List.set_cons_zero, List.set_cons_succ])
                      clear hHeld
                      generalize wr.drew = d at *
                      have clz : d.cell? ⟨q, t, none⟩ = some (.int .u8 (xo : Nat)) := by rw [brow_cell hr4.out t htn]; rw [hat.out]
                      refine h_pairM (i := 5) (j := 7) (v := .int .u8 (xo : Nat)) (w1 := d) (krf.out d) rfl rfl (by kernel_rfl) rfl rfl ?_ ?_ (hS3.out _ kX_d.out) ?_ ?_
                      · go_simp <;> with_reducible rfl
                      · go_simp <;> with_reducible rfl
                      · clear clz
                        refine h_call (i := 7) (fun y : World => blk y w.heap.size = some (.cells #[.int .i64 (R : Nat), .int .i64 (m : Nat), .slice a (N) cap] 24 (0, 0)) ∧ y.cell? ⟨bb, oo + k, none⟩ = some (.slice (some ⟨b7, o7, none⟩) n kk) ∧ y.cell? ⟨b7, o7 + t, none⟩ = some (.int .u8 (xv : Nat))) (fun _ h => h) (krf.out d) rfl (by kernel_rfl) rfl ?_ ?_
                        · go_simp <;> with_reducible rfl
                        rintro e y81 ⟨rfl, hy⟩
                        have hr_y81 := Lib.hid (hr4.out.below hy hr4.out.lt)
                        have kX_y81 := Lib.hid (below_step kX_d.out kX_d.out.size hy)
                        refine ⟨_, rfl, hS3.out _ kX_y81.out, ?_⟩
                        clear hy
                        refine h_call (i := 10) (fun y : World => blk y w.heap.size = some (.cells #[.int .i64 (R : Nat), .int .i64 (m : Nat), .slice a (N) cap] 24 (0, 0)) ∧ y.cell? ⟨bb, oo + k, none⟩ = some (.slice (some ⟨b7, o7, none⟩) n kk) ∧ y.cell? ⟨b7, o7 + t, none⟩ = some (.int .u8 (xv : Nat))) (fun _ h => h) (hma.out y81 kX_y81.out) rfl (by kernel_rfl) rfl ?_ ?_
                        · go_simp <;> with_reducible rfl
                        rintro e y82 ⟨rfl, hy⟩
                        have hr_y82 := Lib.hid (hr_y81.out.below hy hr_y81.out.lt)
                        have kX_y82 := Lib.hid (below_step kX_y81.out kX_y81.out.size hy)
                        refine ⟨_, rfl, hS3.out _ kX_y82.out, ?_⟩
                        clear hy
                        refine h_call (i := 18) (fun y : World => blk y w.heap.size = some (.cells #[.int .i64 (R : Nat), .int .i64 (m : Nat), .slice a (N) cap] 24 (0, 0)) ∧ y.cell? ⟨bb, oo + k, none⟩ = some (.slice (some ⟨b7, o7, none⟩) n kk) ∧ y.cell? ⟨b7, o7 + t, none⟩ = some (.int .u8 (xv : Nat))) (fun _ h => h) (kmu.out y82) rfl (by kernel_rfl) rfl ?_ ?_
                        · go_simp <;> with_reducible rfl
                        rintro e yy ⟨rfl, rfl⟩
                        refine ⟨_, rfl, hS3.out _ kX_y82.out, ?_⟩
                        have hHeld : (fun y : World => blk y w.heap.size = some (.cells #[.int .i64 (R : Nat), .int .i64 (m : Nat), .slice a (N) cap] 24 (0, 0)) ∧ y.cell? ⟨bb, oo + k, none⟩ = some (.slice (some ⟨b7, o7, none⟩) n kk) ∧ y.cell? ⟨b7, o7 + t, none⟩ = some (.int .u8 (xv : Nat))) y82 := hS3.out _ kX_y82.out
                        first
                          | (refine h_run (i := 19) (v := .int .u8 (xn : Nat)) hHeld rfl (by kernel_rfl) (by kernel_rfl) (by kernel_rfl) ?_ ?_ ?_
                             · rfl
                             · (intro x hSx; go_simp <;> with_reducible rfl)
                             simp only [Act.put, List.setIfInBounds_toArray, List.set_cons_zero, List.set_cons_succ])
                        first
                          | (refine h_run (i := 20) (v := ?_) hHeld rfl (by kernel_rfl) (by kernel_rfl) (by kernel_rfl) ?_ ?_ ?_
                             rotate_left
                             · rfl
                             · (intro x hSx; (try dsimp only at hSx); go_simp <;> with_reducible rfl)
                             simp only [Act.put, List.setIfInBounds_toArray, List.set_cons_zero, List.set_cons_succ])
                          | (refine h_skip (i := 20) hHeld rfl (by kernel_rfl) (by kernel_rfl) (by kernel_rfl) ?_ ?_
                             · rfl
                             simp only [Act.put, List.setIfInBounds_toArray, List.set_cons_zero, List.set_cons_succ])
                        clear hHeld
                        have cwy : y82.cell? ⟨q, t, none⟩ = some (.int .u8 (xo : Nat)) := by rw [brow_cell hr_y82.out t htn]; rw [hat.out]
                        have fwy := brow_fr hr_y82.out t
                        have hset := Lib.hid ((BRow.set hr_y82.out t xn).congr (fun j _ => hnx.out j))
                        have hlset := Lib.hid (kX_y82.out.setCell (p := ⟨q, t, none⟩) hXq (.int .u8 (xn : Nat)))
                        refine h_write (i := 21) (w' := y82.setCell ⟨q, t, none⟩ (.int .u8 (xn : Nat))) (fun y : World => blk y w.heap.size = some (.cells #[.int .i64 (R : Nat), .int .i64 (m : Nat), .slice a (N) cap] 24 (0, 0)) ∧ y.cell? ⟨bb, oo + k, none⟩ = some (.slice (some ⟨b7, o7, none⟩) n kk) ∧ y.cell? ⟨b7, o7 + t, none⟩ = some (.int .u8 (xv : Nat))) (fun _ h => h) rfl (by kernel_rfl) rfl ?_ (hS3.out _ hlset.out) ?_
                        · go_simp <;> with_reducible rfl
                        refine h_done (by kernel_rfl) ?_
                        clear cwy fwy
                        go_wp2_with fail
                        go_roundw
                        case rel => exact ⟨t + 1, by omega, by go_num, hset, hlset⟩
                        case measure => simp [intOf]; omega
                      · rintro e y61 ⟨rfl, hy⟩
                        have hr_y61 := Lib.hid (hr4.out.below hy hr4.out.lt)
                        have kX_y61 := Lib.hid (below_step kX_d.out kX_d.out.size hy)
                        refine ⟨_, rfl, hS3.out _ kX_y61.out, ?_⟩
                        clear hy clz
                        have clz : y61.cell? ⟨q, t, none⟩ = some (.int .u8 (xo : Nat)) := by rw [brow_cell hr_y61.out t htn]; rw [hat.out]
                        refine h_pairM (i := 5) (j := 10) (v := .int .u8 (xo : Nat)) (w1 := y61) (hma.out y61 kX_y61.out) rfl rfl (by kernel_rfl) rfl rfl ?_ ?_ (hS3.out _ kX_y61.out) ?_ ?_
                        · go_simp <;> with_reducible rfl
                        · go_simp <;> with_reducible rfl
                        · clear clz
                          refine h_call (i := 10) (fun y : World => blk y w.heap.size = some (.cells #[.int .i64 (R : Nat), .int .i64 (m : Nat), .slice a (N) cap] 24 (0, 0)) ∧ y.cell? ⟨bb, oo + k, none⟩ = some (.slice (some ⟨b7, o7, none⟩) n kk) ∧ y.cell? ⟨b7, o7 + t, none⟩ = some (.int .u8 (xv : Nat))) (fun _ h => h) (hma.out y61 kX_y61.out) rfl (by kernel_rfl) rfl ?_ ?_
                          · go_simp <;> with_reducible rfl
                          rintro e y82 ⟨rfl, hy⟩
                          have hr_y82 := Lib.hid (hr_y61.out.below hy hr_y61.out.lt)
                          have kX_y82 := Lib.hid (below_step kX_y61.out kX_y61.out.size hy)
                          refine ⟨_, rfl, hS3.out _ kX_y82.out, ?_⟩
                          clear hy
                          refine h_call (i := 18) (fun y : World => blk y w.heap.size = some (.cells #[.int .i64 (R : Nat), .int .i64 (m : Nat), .slice a (N) cap] 24 (0, 0)) ∧ y.cell? ⟨bb, oo + k, none⟩ = some (.slice (some ⟨b7, o7, none⟩) n kk) ∧ y.cell? ⟨b7, o7 + t, none⟩ = some (.int .u8 (xv : Nat))) (fun _ h => h) (kmu.out y82) rfl (by kernel_rfl) rfl ?_ ?_
                          · go_simp <;> with_reducible rfl
                          rintro e yy ⟨rfl, rfl⟩
                          refine ⟨_, rfl, hS3.out _ kX_y82.out, ?_⟩
                          have hHeld : (fun y : World => blk y w.heap.size = some (.cells #[.int .i64 (R : Nat), .int .i64 (m : Nat), .slice a (N) cap] 24 (0, 0)) ∧ y.cell? ⟨bb, oo + k, none⟩ = some (.slice (some ⟨b7, o7, none⟩) n kk) ∧ y.cell? ⟨b7, o7 + t, none⟩ = some (.int .u8 (xv : Nat))) y82 := hS3.out _ kX_y82.out
                          first
                            | (refine h_run (i := 19) (v := .int .u8 (xn : Nat)) hHeld rfl (by kernel_rfl) (by kernel_rfl) (by kernel_rfl) ?_ ?_ ?_
                               · rfl
                               · (intro x hSx; go_simp <;> with_reducible rfl)
                               simp only [Act.put, List.setIfInBounds_toArray, List.set_cons_zero, List.set_cons_succ])
                          first
                            | (refine h_run (i := 20) (v := ?_) hHeld rfl (by kernel_rfl) (by kernel_rfl) (by kernel_rfl) ?_ ?_ ?_
                               rotate_left
                               · rfl
                               · (intro x hSx; (try dsimp only at hSx); go_simp <;> with_reducible rfl)
                               simp only [Act.put, List.setIfInBounds_toArray, List.set_cons_zero, List.set_cons_succ])
                            | (refine h_skip (i := 20) hHeld rfl (by kernel_rfl) (by kernel_rfl) (by kernel_rfl) ?_ ?_
                               · rfl
                               simp only [Act.put, List.setIfInBounds_toArray, List.set_cons_zero, List.set_cons_succ])
                          clear hHeld
                          have cwy : y82.cell? ⟨q, t, none⟩ = some (.int .u8 (xo : Nat)) := by rw [brow_cell hr_y82.out t htn]; rw [hat.out]
                          have fwy := brow_fr hr_y82.out t
                          have hset := Lib.hid ((BRow.set hr_y82.out t xn).congr (fun j _ => hnx.out j))
                          have hlset := Lib.hid (kX_y82.out.setCell (p := ⟨q, t, none⟩) hXq (.int .u8 (xn : Nat)))
                          refine h_write (i := 21) (w' := y82.setCell ⟨q, t, none⟩ (.int .u8 (xn : Nat))) (fun y : World => blk y w.heap.size = some (.cells #[.int .i64 (R : Nat), .int .i64 (m : Nat), .slice a (N) cap] 24 (0, 0)) ∧ y.cell? ⟨bb, oo + k, none⟩ = some (.slice (some ⟨b7, o7, none⟩) n kk) ∧ y.cell? ⟨b7, o7 + t, none⟩ = some (.int .u8 (xv : Nat))) (fun _ h => h) rfl (by kernel_rfl) rfl ?_ (hS3.out _ hlset.out) ?_
                          · go_simp <;> with_reducible rfl
                          refine h_done (by kernel_rfl) ?_
                          clear cwy fwy
                          go_wp2_with fail
                          go_roundw
                          case rel => exact ⟨t + 1, by omega, by go_num, hset, hlset⟩
                          case measure => simp [intOf]; omega
                        · rintro e y62 ⟨rfl, hy⟩
                          have hr_y62 := Lib.hid (hr_y61.out.below hy hr_y61.out.lt)
                          have kX_y62 := Lib.hid (below_step kX_y61.out kX_y61.out.size hy)
                          refine ⟨_, rfl, hS3.out _ kX_y62.out, ?_⟩
                          clear hy clz
                          have clz : y62.cell? ⟨q, t, none⟩ = some (.int .u8 (xo : Nat)) := by rw [brow_cell hr_y62.out t htn]; rw [hat.out]
                          refine h_pairM (i := 5) (j := 18) (v := .int .u8 (xo : Nat)) (w1 := y62) (kmu.out y62) rfl rfl (by kernel_rfl) rfl rfl ?_ ?_ (hS3.out _ kX_y62.out) ?_ ?_
                          · go_simp <;> with_reducible rfl
                          · go_simp <;> with_reducible rfl
                          · clear clz
                            refine h_call (i := 18) (fun y : World => blk y w.heap.size = some (.cells #[.int .i64 (R : Nat), .int .i64 (m : Nat), .slice a (N) cap] 24 (0, 0)) ∧ y.cell? ⟨bb, oo + k, none⟩ = some (.slice (some ⟨b7, o7, none⟩) n kk) ∧ y.cell? ⟨b7, o7 + t, none⟩ = some (.int .u8 (xv : Nat))) (fun _ h => h) (kmu.out y62) rfl (by kernel_rfl) rfl ?_ ?_
                            · go_simp <;> with_reducible rfl
                            rintro e yy ⟨rfl, rfl⟩
                            refine ⟨_, rfl, hS3.out _ kX_y62.out, ?_⟩
                            have hHeld : (fun y : World => blk y w.heap.size = some (.cells #[.int .i64 (R : Nat), .int .i64 (m : Nat), .slice a (N) cap] 24 (0, 0)) ∧ y.cell? ⟨bb, oo + k, none⟩ = some (.slice (some ⟨b7, o7, none⟩) n kk) ∧ y.cell? ⟨b7, o7 + t, none⟩ = some (.int .u8 (xv : Nat))) y62 := hS3.out _ kX_y62.out
                            first
                              | (refine h_run (i := 19) (v := .int .u8 (xn : Nat)) hHeld rfl (by kernel_rfl) (by kernel_rfl) (by kernel_rfl) ?_ ?_ ?_
                                 · rfl
                                 · (intro x hSx; go_simp <;> with_reducible rfl)
                                 simp only [Act.put, List.setIfInBounds_toArray, List.set_cons_zero, List.set_cons_succ])
                            first
                              | (refine h_run (i := 20) (v := ?_) hHeld rfl (by kernel_rfl) (by kernel_rfl) (by kernel_rfl) ?_ ?_ ?_
                                 rotate_left
                                 · rfl
                                 · (intro x hSx; (try dsimp only at hSx); go_simp <;> with_reducible rfl)
                                 simp only [Act.put, List.setIfInBounds_toArray, List.set_cons_zero, List.set_cons_succ])
                              | (refine h_skip (i := 20) hHeld rfl (by kernel_rfl) (by kernel_rfl) (by kernel_rfl) ?_ ?_
                                 · rfl
                                 simp only [Act.put, List.setIfInBounds_toArray, List.set_cons_zero, List.set_cons_succ])
                            clear hHeld
                            have cwy : y62.cell? ⟨q, t, none⟩ = some (.int .u8 (xo : Nat)) := by rw [brow_cell hr_y62.out t htn]; rw [hat.out]
                            have fwy := brow_fr hr_y62.out t
                            have hset := Lib.hid ((BRow.set hr_y62.out t xn).congr (fun j _ => hnx.out j))
                            have hlset := Lib.hid (kX_y62.out.setCell (p := ⟨q, t, none⟩) hXq (.int .u8 (xn : Nat)))
                            refine h_write (i := 21) (w' := y62.setCell ⟨q, t, none⟩ (.int .u8 (xn : Nat))) (fun y : World => blk y w.heap.size = some (.cells #[.int .i64 (R : Nat), .int .i64 (m : Nat), .slice a (N) cap] 24 (0, 0)) ∧ y.cell? ⟨bb, oo + k, none⟩ = some (.slice (some ⟨b7, o7, none⟩) n kk) ∧ y.cell? ⟨b7, o7 + t, none⟩ = some (.int .u8 (xv : Nat))) (fun _ h => h) rfl (by kernel_rfl) rfl ?_ (hS3.out _ hlset.out) ?_
                            · go_simp <;> with_reducible rfl
                            refine h_done (by kernel_rfl) ?_
                            clear cwy fwy
                            go_wp2_with fail
                            go_roundw
                            case rel => exact ⟨t + 1, by omega, by go_num, hset, hlset⟩
                            case measure => simp [intOf]; omega
                          · rintro e yy ⟨rfl, rfl⟩
                            refine ⟨_, rfl, hS3.out _ kX_y62.out, ?_⟩
                            clear clz
                            have clz : y62.cell? ⟨q, t, none⟩ = some (.int .u8 (xo : Nat)) := by rw [brow_cell hr_y62.out t htn]; rw [hat.out]
                            refine h_value (i := 5) (v := .int .u8 (xo : Nat)) (w' := y62) (fun y : World => blk y w.heap.size = some (.cells #[.int .i64 (R : Nat), .int .i64 (m : Nat), .slice a (N) cap] 24 (0, 0)) ∧ y.cell? ⟨bb, oo + k, none⟩ = some (.slice (some ⟨b7, o7, none⟩) n kk) ∧ y.cell? ⟨b7, o7 + t, none⟩ = some (.int .u8 (xv : Nat))) (fun _ h => h) rfl (by kernel_rfl) rfl ?_ (hS3.out _ kX_y62.out) ?_
                            · go_simp <;> with_reducible rfl
                            clear clz
                            have hHeld : (fun y : World => blk y w.heap.size = some (.cells #[.int .i64 (R : Nat), .int .i64 (m : Nat), .slice a (N) cap] 24 (0, 0)) ∧ y.cell? ⟨bb, oo + k, none⟩ = some (.slice (some ⟨b7, o7, none⟩) n kk) ∧ y.cell? ⟨b7, o7 + t, none⟩ = some (.int .u8 (xv : Nat))) y62 := hS3.out _ kX_y62.out
                            first
                              | (refine h_run (i := 19) (v := .int .u8 (xn : Nat)) hHeld rfl (by kernel_rfl) (by kernel_rfl) (by kernel_rfl) ?_ ?_ ?_
                                 · rfl
                                 · (intro x hSx; go_simp <;> with_reducible rfl)
                                 simp only [Act.put, List.setIfInBounds_toArray, List.set_cons_zero, List.set_cons_succ])
                            first
                              | (refine h_run (i := 20) (v := ?_) hHeld rfl (by kernel_rfl) (by kernel_rfl) (by kernel_rfl) ?_ ?_ ?_
                                 rotate_left
                                 · rfl
                                 · (intro x hSx; (try dsimp only at hSx); go_simp <;> with_reducible rfl)
                                 simp only [Act.put, List.setIfInBounds_toArray, List.set_cons_zero, List.set_cons_succ])
                              | (refine h_skip (i := 20) hHeld rfl (by kernel_rfl) (by kernel_rfl) (by kernel_rfl) ?_ ?_
                                 · rfl
                                 simp only [Act.put, List.setIfInBounds_toArray, List.set_cons_zero, List.set_cons_succ])
                            clear hHeld
                            have cwy : y62.cell? ⟨q, t, none⟩ = some (.int .u8 (xo : Nat)) := by rw [brow_cell hr_y62.out t htn]; rw [hat.out]
                            have fwy := brow_fr hr_y62.out t
                            have hset := Lib.hid ((BRow.set hr_y62.out t xn).congr (fun j _ => hnx.out j))
                            have hlset := Lib.hid (kX_y62.out.setCell (p := ⟨q, t, none⟩) hXq (.int .u8 (xn : Nat)))
                            refine h_write (i := 21) (w' := y62.setCell ⟨q, t, none⟩ (.int .u8 (xn : Nat))) (fun y : World => blk y w.heap.size = some (.cells #[.int .i64 (R : Nat), .int .i64 (m : Nat), .slice a (N) cap] 24 (0, 0)) ∧ y.cell? ⟨bb, oo + k, none⟩ = some (.slice (some ⟨b7, o7, none⟩) n kk) ∧ y.cell? ⟨b7, o7 + t, none⟩ = some (.int .u8 (xv : Nat))) (fun _ h => h) rfl (by kernel_rfl) rfl ?_ (hS3.out _ hlset.out) ?_
                            · go_simp <;> with_reducible rfl
                            refine h_done (by kernel_rfl) ?_
                            clear cwy fwy
                            go_wp2_with fail
                            go_roundw
                            case rel => exact ⟨t + 1, by omega, by go_num, hset, hlset⟩
                            case measure => simp [intOf]; omega
                    · obtain rfl : n = t := by omega
                      have i3 : decide ((n : Int) < (n : Int)) = false := by simp
                      have hr5 : Hid (BRow wr q n (fun j => dtF F V i j (k + 1))) := hide (hr3.out.congr (fun j hj => wt_end F V i k n j hj))
                      go_wp2_with fail
                      go_roundw
                      case rel => exact ⟨k + 1, by omega, by go_num, hr5, hl3⟩
                      case measure => simp [intOf]; omega
                · obtain rfl : m = k := by omega
                  have i2 : decide ((m : Int) < (m : Int)) = false := by simp
                  have hw1 : Hid (By wr (some ⟨q, 0, none⟩) n (fun j => mlF F V m i j)) := hide (hr1.out.by.congr (fun j _ => (ml_dt F V m i j).symm))
                  obtain ⟨b8, o8, x8, k8, hs8, hc8, hy8⟩ := hrX2.out.get hiR
                  injection hs8 with hs8
                  injection hs8 with hb8 ho8
                  subst hb8 ho8
                  rw [Nat.zero_add] at hc8
                  have c8 : wr.cell? ⟨g, i, none⟩ = some (.slice x8 n k8) := (hl1.out.cell (p := ⟨g, i, none⟩) (cell_block_lt hc8)).trans hc8
                  have hy9 := Lib.hid (hy8.below hl1.out)
                  clear hc8 hy8
                  go_wp2_with fail
                  refine (r_sameB x8 (some ⟨q, 0, none⟩) k8 n n (mlF F V m i) wr hy9.out hw1.out (by omega)).mono ?_
                  rintro e y9 ⟨rfl, hy⟩
                  have hl9 := Lib.hid (below_step hl1.out hl1.out.size hy)
                  clear hy c8 c1 b2
                  go_wp2_with fail
                  go_roundw
                  case rel => exact ⟨i + 1, by omega, by go_num, hl9⟩
                  case measure => simp [intOf]; omega
            · obtain rfl : R = i := by omega
              have i1 : decide ((R : Int) < (R : Int)) = false := by simp
              have hlast := Lib.hid (hfX.out _ hl.out)
              go_wp2_with fail
              go_ret
              exact ⟨rfl, hlast.out⟩
end Go.Proofs.Ytkcalgolanpjaaa

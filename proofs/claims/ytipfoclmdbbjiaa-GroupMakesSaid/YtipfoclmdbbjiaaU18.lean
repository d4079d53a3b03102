import Derived.Test.YtipfoclmdbbjiaaU16
import Derived.Test.YtipfoclmdbbjiaaU17
import Derived.Deep.DeepCutAuto
import Derived.Deep.QuietTactic
import Derived.StillTailTactics
/- rs.New: the code's rows. Conditions: the tables' block. -/
namespace Go.Proofs.Ytipfoclmdbbjiaa
open Go.RowKit
set_option maxRecDepth 100000 in
theorem mat_setBox2 {w : World} {a : Option Addr} {R C b : Nat} {F : Nat → Nat → Nat} {r c : Int} {s : Option Addr} {n m : Nat} {T : TypeId} {fr : Nat × Nat} (h : MAt w a R C F) (hb : w.heap[b]? = some (.cells #[.int .i64 r, .int .i64 c, .slice s n m] T fr)) (D : Array Value) :
    MAt (w.setRow b D) a R C F := mat_setBox h hb D
/-- a code's block -/
def CodeAt (w : World) (c p k m : Nat) : Prop := ∃ g, w.heap[c]? = some (.cells #[.int .i64 (k : Nat), .int .i64 (m : Nat), .pointer (some ⟨p, 0, none⟩), .int .i64 (k + m : Nat), .int .i64 (k : Nat), .slice (some ⟨g, 0, none⟩) ((k + m) * k) ((k + m) * k)] 115 (0, 0)) ∧ MAt w (some ⟨g, 0, none⟩) (k + m) k (rsF k)
def CodePost (W : World) (p k m : Nat) (e : Ending) (W' : World) : Prop := ∃ c, e = .returned (.tuple #[.pointer (some ⟨c, 0, none⟩), .int .i64 0]) ∧ W.heap.size ≤ c ∧ CodeAt W' c p k m ∧ Below W.heap.size W W'
attribute [local irreducible] gexp gtbl glog rmul rinv rpow zexp mixF blk wLoad wLoadRes loadAns wStore wStoreRes storeAns Plain flF BRow MRow MAt By IsGf ivS rsF mlF
attribute [local go_sem ↓] ld_m0 sto_m0
attribute [local go_sem] ld_m sto_m loadAns_some storeAns_some mx_size mx_plain blk_alloc_if blk_setRow_if blk_drew_at blk_drewN_at rowPut_some blk_setCell_if cellPut_some
set_option maxRecDepth 100000 in
set_option maxHeartbeats 1000000 in
theorem s_code_no (p : Value) (k m : Int) (w : World) (h : k < 1 ∨ m < 0) :
    Calls Try.prog 32 #[p, .int .i64 k, .int .i64 m] w fun e w' => e = .returned (.tuple #[.pointer none, .int .i64 60]) ∧ w = w' := by
  by_cases h0 : k < 1
  · have d0 : decide (k < 1) = true := decide_eq_true h0
    clear h
    go_enter Try.func32, Try.ntmps32
    go_wp2_with fail
    go_ret2
    exact ⟨rfl, rfl⟩
  · have d0 : decide (k < 1) = false := decide_eq_false h0
    have d1 : decide (m < 0) = true := decide_eq_true (by omega)
    clear h h0
    go_enter Try.func32, Try.ntmps32
    go_wp2_with fail
    go_ret2
    exact ⟨rfl, rfl⟩
set_option maxRecDepth 100000 in
set_option maxHeartbeats 4000000 in
theorem s_code (p k m : Nat) (w : World) (hp : IsGf w p) (h0 : 1 ≤ k) (hkm : k + m ≤ 255) :
    Calls Try.prog 32 #[.pointer (some ⟨p, 0, none⟩), .int .i64 (k : Nat), .int .i64 (m : Nat)] w (CodePost w p k m) := by
  have hz := zeroM
  have hph := Lib.hid hp
  have hpl := hp.lt
  obtain ⟨R, hR⟩ : ∃ R, k + m = R := ⟨_, rfl⟩
  have hRi : (k : Int) + (m : Int) = (R : Int) := by omega
  have hkR : k ≤ R := by omega
  have hR2 : R ≤ 255 := by omega
  have d0 : decide ((k : Int) < 1) = false := decide_eq_false (by omega)
  have d1 : decide ((m : Int) < 0) = false := decide_eq_false (by omega)
  have d2 : decide ((255 : Int) < (k : Int)) = false := decide_eq_false (by omega)
  have d3 : decide (255 - (k : Int) < (m : Int)) = false := decide_eq_false (by omega)
  have hfin : Hid (∀ (W' : World) (c g : Nat), W'.heap[c]? = some (.cells #[.int .i64 (k : Nat), .int .i64 (m : Nat), .pointer (some ⟨p, 0, none⟩), .int .i64 (R : Nat), .int .i64 (k : Nat), .slice (some ⟨g, 0, none⟩) (R * k) (R * k)] 115 (0, 0)) → MAt W' (some ⟨g, 0, none⟩) R k (rsF k) → CodeAt W' c p k m) := hide (fun W' c g h1 h2 => by unfold CodeAt; rw [hR]; exact ⟨g, h1, h2⟩)
  have kpw := Lib.hid (fun y (hy : IsGf y p) => m_powers p R k y hy hR2 (by omega))
  have kfi := Lib.hid (fun y => s_first k y (by omega))
  have kpk := Lib.hid (fun y g (s : Option Addr) (c : Nat) (ha : MAt y (some ⟨g, 0, none⟩) R k pwF) (hs : ZAt y .i64 s k (fun i => (i : Nat))) => m_pick R k k k (some ⟨g, 0, none⟩) s (R * k) c pwF (fun i => (i : Nat)) y ha hs hR2 (by omega) (by omega) (Nat.le_refl _) (Nat.le_refl _) (fun j hj => by omega) (fun h => absurd h (Nat.lt_irrefl _)))
  have kin := Lib.hid (fun y g (hy : IsGf y p) (ha : MAt y (some ⟨g, 0, none⟩) k k topF) => m_invert p k (some ⟨g, 0, none⟩) (k * k) topF y hy ha (fun e => by cases e) topF_bd (by omega))
  have hpv : Hid (∀ j, j < k → pvF (ivS topF k j).1 j k j < k) := hide (top_piv k (by omega))
  have kmu := Lib.hid (fun y g g2 (hy : IsGf y p) (ha : MAt y (some ⟨g, 0, none⟩) R k pwF) (hb : MAt y (some ⟨g2, 0, none⟩) k k (ivS topF k k).2) => m_mul p R k k (some ⟨g, 0, none⟩) (some ⟨g2, 0, none⟩) (R * k) (k * k) pwF (ivS topF k k).2 y hy ha hb pw_bd (iv_bd topF topF_bd k k).2 hR2 (by omega) (by omega) (Nat.le_refl _) (Nat.le_refl _))
  have hrs : Hid (mlF pwF (ivS topF k k).2 k = rsF k) := hide (by unfold rsF; rfl)
  rw [hrs.out] at kmu
  obtain ⟨N, hN⟩ : ∃ N, R * k = N := ⟨_, rfl⟩
  obtain ⟨M, hM⟩ : ∃ M, k * k = M := ⟨_, rfl⟩
  rw [hN] at hfin kpk kmu
  rw [hM] at kin kmu
  have hNh := Lib.hid hN
  have hMh := Lib.hid hM
  clear hp hR hN hM hrs
  go_enter Try.func32, Try.ntmps32
  go_wp2_with fail
  refine (kpw.out w hph.out).mono ?_
  rintro e w1 ⟨g, rfl, hg, hmg, hb1⟩
  rw [hNh.out]
  have hb1h := Lib.hid hb1
  have hmgh := Lib.hid hmg
  have hgl := hmg.lt
  have hs1 := hb1.size
  clear hmg hb1
  go_upto_region 4 with (fail)
  obtain ⟨x0, x1, x2⟩ := boxed w1 #[.int .i64 0, .int .i64 0, .slice none 0 0] #[.int .i64 (R : Nat), .int .i64 (k : Nat), .slice (some ⟨g, 0, none⟩) N N] 106
  generalize World.setRow (World.alloc w1 _) _ _ = X at *
  generalize w1.heap.size = q8 at *
  have hmX : Hid (MAt X (some ⟨g, 0, none⟩) R k pwF) := hide (by
    have h := hmgh.out
    exact (h.below x2 hgl).mat)
  have hX8 : q8 < X.heap.size := by omega
  have hBX := Lib.hid (hb1h.out.trans (x2.mono hs1))
  have x0h := Lib.hid x0
  clear x0 x1 x2
  go_cut [10, 11] (fun v10 v11 wx => ∃ q g2 : Nat, v10 = .pointer (some ⟨q, 0, none⟩) ∧ v11 = .int .i64 0 ∧ Hid (wx.heap[q]? = some (.cells #[.int .i64 (k : Nat), .int .i64 (k : Nat), .slice (some ⟨g2, 0, none⟩) M M] 106 (0, 0))) ∧ Hid (Below X.heap.size X wx) ∧ Hid (MAt wx (some ⟨g2, 0, none⟩) k k topF))
  case first =>
    have hS : Hid (∀ y, Below X.heap.size X y → blk y q8 = some (.cells #[.int .i64 (R : Nat), .int .i64 (k : Nat), .slice (some ⟨g, 0, none⟩) N N] 106 (0, 0))) := hide (fun y hy => (blk_below hy hX8).trans (blk_of x0h.out))
    have hBd : Hid (Below X.heap.size X X.drew) := hide (below_drewN (Below.refl _ _) 1)
    refine h_begin 10 (fun y : World => blk y q8 = some (.cells #[.int .i64 (R : Nat), .int .i64 (k : Nat), .slice (some ⟨g, 0, none⟩) N N] 106 (0, 0))) rfl (by kernel_rfl) (hS.out _ hBd.out) ?_
    have hHeld : (fun y : World => blk y q8 = some (.cells #[.int .i64 (R : Nat), .int .i64 (k : Nat), .slice (some ⟨g, 0, none⟩) N N] 106 (0, 0))) X.drew := hS.out _ hBd.out
    first
      | (refine h_run (i := 0) (v := ?_) hHeld rfl (by kernel_rfl) (by kernel_rfl) (by kernel_rfl) ?_ ?_ ?_
         rotate_left
         · rfl
         · (intro x hSx; (try dsimp only at hSx); go_simp <;> with_reducible rfl)
         simp only [Act.put, List.setIfInBounds_toArray, List.set_cons_zero, List.set_cons_succ])
      | (refine h_skip (i := 0) hHeld rfl (by kernel_rfl) (by kernel_rfl) (by kernel_rfl) ?_ ?_
         · rfl
         simp only [Act.put, List.setIfInBounds_toArray, List.set_cons_zero, List.set_cons_succ])
    first
      | (refine h_run (i := 1) (v := ?_) hHeld rfl (by kernel_rfl) (by kernel_rfl) (by kernel_rfl) ?_ ?_ ?_
         rotate_left
         · rfl
         · (intro x hSx; (try dsimp only at hSx); go_simp <;> with_reducible rfl)
         simp only [Act.put, List.setIfInBounds_toArray, List.set_cons_zero, List.set_cons_succ])
      | (refine h_skip (i := 1) hHeld rfl (by kernel_rfl) (by kernel_rfl) (by kernel_rfl) ?_ ?_
         · rfl
         simp only [Act.put, List.setIfInBounds_toArray, List.set_cons_zero, List.set_cons_succ])
    clear hHeld
    refine h_alloc2 (i := 7) (j := 2) (k := 3) (fj := 43) (fk := 42) (aj := #[.int .i64 (k : Nat)]) (fun v => #[.agg #[.int .i64 (R : Nat), .int .i64 (k : Nat), .slice (some ⟨g, 0, none⟩) N N], v]) (.cells #[.int .i64 0, .int .i64 0, .slice none 0 0] 106) X.heap.size (fun y => Below X.heap.size X y) (fun y => Below X.heap.size X y)
      (fun v y => ∃ s c, v = .slice s k c ∧ ZAt y .i64 s k (fun i => (i : Nat))) (fun u y => ∃ g2, u = .tuple #[.agg #[.int .i64 (k : Nat), .int .i64 (k : Nat), .slice (some ⟨g2, 0, none⟩) M M], .int .i64 0] ∧ MAt y (some ⟨g2, 0, none⟩) k k topF) [2, 7] [3, 7]
      hBd.out hS.out (fun y hy => hy.size) (fun y hy => hy.alloc hy.size _) hS.out (fun y hy => hy.size) (fun y hy => hy.alloc hy.size _) (fun v y hy hv => ?_) (fun u y hy hu => ?_) (fun y hy => ?_) (fun y v hy hv => ?_) rfl rfl rfl (by kernel_rfl) (by decide) (by kernel_rfl) (by kernel_rfl) (by kernel_rfl) (by decide) (by kernel_rfl) (fun _ => rfl) (fun _ => rfl) (fun _ => rfl) (fun b y => ?_) (fun y => ?_) (fun y p => ?_) (fun y v => ?_) (fun y v p => ?_) (fun y v p => ?_) rfl (fun _ _ _ => rfl) ?_ ?_
    · obtain ⟨s, c, h1, h2⟩ := hv
      exact ⟨s, c, h1, h2.below (below_one y _)⟩
    · obtain ⟨g2, h1, h2⟩ := hu
      exact ⟨g2, h1, h2.below (below_one y _)⟩
    · refine (kfi.out y).mono ?_
      rintro e y1 ⟨s, c, rfl, h1, _, _, _, h2⟩
      exact ⟨_, rfl, below_step hy hy.size h2, ⟨s, c, rfl, h1⟩, fun q _ hq => h2.block q hq⟩
    · obtain ⟨s, c, rfl, h1⟩ := hv
      refine (kpk.out y g s c (hmX.out.below hy) h1).mono ?_
      rintro e y1 (⟨_, g2, rfl, h2, h3, h4⟩ | ⟨h, _⟩)
      · refine ⟨_, rfl, below_step hy hy.size h4, ⟨g2, by rw [hMh.out], ?_⟩, fun q _ hq => h4.block q hq⟩
        exact (h3.congr (fun r c _ _ => rfl)).mat
      · exact absurd h (Nat.lt_irrefl _)
    · go_simp <;> with_reducible rfl
    · go_simp <;> with_reducible rfl
    · go_simp <;> with_reducible rfl
    · go_simp <;> with_reducible rfl
    · go_simp <;> with_reducible rfl
    · go_simp <;> with_reducible rfl
    · intro y q v u hy hu hq hBq
      obtain ⟨g2, rfl, hm2⟩ := hu
      simp only [Act.put, List.setIfInBounds_toArray, List.set_cons_zero, List.set_cons_succ]
      have hm2h := Lib.hid hm2
      have hHeld : (fun y : World => blk y q8 = some (.cells #[.int .i64 (R : Nat), .int .i64 (k : Nat), .slice (some ⟨g, 0, none⟩) N N] 106 (0, 0))) y := hS.out _ hy
      clear hm2
      first
        | (refine h_run (i := 4) (v := ?_) hHeld rfl (by kernel_rfl) (by kernel_rfl) (by kernel_rfl) ?_ ?_ ?_
           rotate_left
           · rfl
           · (intro x hSx; (try dsimp only at hSx); go_simp <;> with_reducible rfl)
           simp only [Act.put, List.setIfInBounds_toArray, List.set_cons_zero, List.set_cons_succ])
        | (refine h_skip (i := 4) hHeld rfl (by kernel_rfl) (by kernel_rfl) (by kernel_rfl) ?_ ?_
           · rfl
           simp only [Act.put, List.setIfInBounds_toArray, List.set_cons_zero, List.set_cons_succ])
      first
        | (refine h_run (i := 5) (v := ?_) hHeld rfl (by kernel_rfl) (by kernel_rfl) (by kernel_rfl) ?_ ?_ ?_
           rotate_left
           · rfl
           · (intro x hSx; (try dsimp only at hSx); go_simp <;> with_reducible rfl)
           simp only [Act.put, List.setIfInBounds_toArray, List.set_cons_zero, List.set_cons_succ])
        | (refine h_skip (i := 5) hHeld rfl (by kernel_rfl) (by kernel_rfl) (by kernel_rfl) ?_ ?_
           · rfl
           simp only [Act.put, List.setIfInBounds_toArray, List.set_cons_zero, List.set_cons_succ])
      first
        | (refine h_run (i := 6) (v := ?_) hHeld rfl (by kernel_rfl) (by kernel_rfl) (by kernel_rfl) ?_ ?_ ?_
           rotate_left
           · rfl
           · (intro x hSx; (try dsimp only at hSx); go_simp <;> with_reducible rfl)
           simp only [Act.put, List.setIfInBounds_toArray, List.set_cons_zero, List.set_cons_succ])
        | (refine h_skip (i := 6) hHeld rfl (by kernel_rfl) (by kernel_rfl) (by kernel_rfl) ?_ ?_
           · rfl
           simp only [Act.put, List.setIfInBounds_toArray, List.set_cons_zero, List.set_cons_succ])
      clear hHeld
      have bq := blk_of hq
      have hyz := Lib.hid (below_setRow hy hBq #[.int .i64 (k : Nat), .int .i64 (k : Nat), .slice (some ⟨g2, 0, none⟩) M M])
      have hqz := Lib.hid (setRow_heap y q _ #[.int .i64 (k : Nat), .int .i64 (k : Nat), .slice (some ⟨g2, 0, none⟩) M M] 106 (0, 0) hq)
      have hmz := Lib.hid (mat_setBox2 hm2h.out hq #[.int .i64 (k : Nat), .int .i64 (k : Nat), .slice (some ⟨g2, 0, none⟩) M M])
      clear hq
      refine h_write (i := 8) (w' := y.setRow q #[.int .i64 (k : Nat), .int .i64 (k : Nat), .slice (some ⟨g2, 0, none⟩) M M]) (fun y : World => blk y q8 = some (.cells #[.int .i64 (R : Nat), .int .i64 (k : Nat), .slice (some ⟨g, 0, none⟩) N N] 106 (0, 0))) (fun _ h => h) rfl (by kernel_rfl) rfl ?_ (hS.out _ hyz.out) ?_
      · go_simp <;> with_reducible rfl
      have hHeld : (fun y : World => blk y q8 = some (.cells #[.int .i64 (R : Nat), .int .i64 (k : Nat), .slice (some ⟨g, 0, none⟩) N N] 106 (0, 0))) (y.setRow q #[.int .i64 (k : Nat), .int .i64 (k : Nat), .slice (some ⟨g2, 0, none⟩) M M]) := hS.out _ hyz.out
      first
        | (refine h_run (i := 9) (v := ?_) hHeld rfl (by kernel_rfl) (by kernel_rfl) (by kernel_rfl) ?_ ?_ ?_
           rotate_left
           · rfl
           · (intro x hSx; (try dsimp only at hSx); go_simp <;> with_reducible rfl)
           simp only [Act.put, List.setIfInBounds_toArray, List.set_cons_zero, List.set_cons_succ])
        | (refine h_skip (i := 9) hHeld rfl (by kernel_rfl) (by kernel_rfl) (by kernel_rfl) ?_ ?_
           · rfl
           simp only [Act.put, List.setIfInBounds_toArray, List.set_cons_zero, List.set_cons_succ])
      clear hHeld bq
      refine h_done (by kernel_rfl) ?_
      go_wp2_with fail
      go_meet
      exact ⟨q, g2, rfl, rfl, hqz, hyz, hmz⟩
    · intro y v u hy hu
      obtain ⟨g2, rfl, hm2⟩ := hu
      simp only [Act.put, List.setIfInBounds_toArray, List.set_cons_zero, List.set_cons_succ]
      have hm2h := Lib.hid hm2
      have hHeld : (fun y : World => blk y q8 = some (.cells #[.int .i64 (R : Nat), .int .i64 (k : Nat), .slice (some ⟨g, 0, none⟩) N N] 106 (0, 0))) y := hS.out _ hy
      clear hm2
      first
        | (refine h_run (i := 4) (v := ?_) hHeld rfl (by kernel_rfl) (by kernel_rfl) (by kernel_rfl) ?_ ?_ ?_
           rotate_left
           · rfl
           · (intro x hSx; (try dsimp only at hSx); go_simp <;> with_reducible rfl)
           simp only [Act.put, List.setIfInBounds_toArray, List.set_cons_zero, List.set_cons_succ])
        | (refine h_skip (i := 4) hHeld rfl (by kernel_rfl) (by kernel_rfl) (by kernel_rfl) ?_ ?_
           · rfl
           simp only [Act.put, List.setIfInBounds_toArray, List.set_cons_zero, List.set_cons_succ])
      first
        | (refine h_run (i := 5) (v := ?_) hHeld rfl (by kernel_rfl) (by kernel_rfl) (by kernel_rfl) ?_ ?_ ?_
           rotate_left
           · rfl
           · (intro x hSx; (try dsimp only at hSx); go_simp <;> with_reducible rfl)
           simp only [Act.put, List.setIfInBounds_toArray, List.set_cons_zero, List.set_cons_succ])
        | (refine h_skip (i := 5) hHeld rfl (by kernel_rfl) (by kernel_rfl) (by kernel_rfl) ?_ ?_
           · rfl
           simp only [Act.put, List.setIfInBounds_toArray, List.set_cons_zero, List.set_cons_succ])
      first
        | (refine h_run (i := 6) (v := ?_) hHeld rfl (by kernel_rfl) (by kernel_rfl) (by kernel_rfl) ?_ ?_ ?_
           rotate_left
           · rfl
           · (intro x hSx; (try dsimp only at hSx); go_simp <;> with_reducible rfl)
           simp only [Act.put, List.setIfInBounds_toArray, List.set_cons_zero, List.set_cons_succ])
        | (refine h_skip (i := 6) hHeld rfl (by kernel_rfl) (by kernel_rfl) (by kernel_rfl) ?_ ?_
           · rfl
           simp only [Act.put, List.setIfInBounds_toArray, List.set_cons_zero, List.set_cons_succ])
      have hal := Lib.hid (hy.alloc hy.size (.cells #[.int .i64 0, .int .i64 0, .slice none 0 0] 106))
      refine h_value (i := 7) (v := .pointer (some ⟨y.heap.size, 0, none⟩)) (w' := y.alloc (.cells #[.int .i64 0, .int .i64 0, .slice none 0 0] 106)) (fun y : World => blk y q8 = some (.cells #[.int .i64 (R : Nat), .int .i64 (k : Nat), .slice (some ⟨g, 0, none⟩) N N] 106 (0, 0))) (fun _ h => h) rfl (by kernel_rfl) rfl ?_ (hS.out _ hal.out) ?_
      · go_simp <;> with_reducible rfl
      have hq := last_block0 y (.cells #[.int .i64 0, .int .i64 0, .slice none 0 0] 106) _ rfl
      have hBq := hy.size
      have hm2h := Lib.hid (hm2h.out.below (below_one y (.cells #[.int .i64 0, .int .i64 0, .slice none 0 0] 106)))
      generalize hqe : y.heap.size = q at *
      have hy := hal.out
      generalize World.alloc y _ = y at *
      clear hHeld
      have bq := blk_of hq
      have hyz := Lib.hid (below_setRow hy hBq #[.int .i64 (k : Nat), .int .i64 (k : Nat), .slice (some ⟨g2, 0, none⟩) M M])
      have hqz := Lib.hid (setRow_heap y q _ #[.int .i64 (k : Nat), .int .i64 (k : Nat), .slice (some ⟨g2, 0, none⟩) M M] 106 (0, 0) hq)
      have hmz := Lib.hid (mat_setBox2 hm2h.out hq #[.int .i64 (k : Nat), .int .i64 (k : Nat), .slice (some ⟨g2, 0, none⟩) M M])
      clear hq
      refine h_write (i := 8) (w' := y.setRow q #[.int .i64 (k : Nat), .int .i64 (k : Nat), .slice (some ⟨g2, 0, none⟩) M M]) (fun y : World => blk y q8 = some (.cells #[.int .i64 (R : Nat), .int .i64 (k : Nat), .slice (some ⟨g, 0, none⟩) N N] 106 (0, 0))) (fun _ h => h) rfl (by kernel_rfl) rfl ?_ (hS.out _ hyz.out) ?_
      · go_simp <;> with_reducible rfl
      have hHeld : (fun y : World => blk y q8 = some (.cells #[.int .i64 (R : Nat), .int .i64 (k : Nat), .slice (some ⟨g, 0, none⟩) N N] 106 (0, 0))) (y.setRow q #[.int .i64 (k : Nat), .int .i64 (k : Nat), .slice (some ⟨g2, 0, none⟩) M M]) := hS.out _ hyz.out
      first
        | (refine h_run (i := 9) (v := ?_) hHeld rfl (by kernel_rfl) (by kernel_rfl) (by kernel_rfl) ?_ ?_ ?_
           rotate_left
           · rfl
           · (intro x hSx; (try dsimp only at hSx); go_simp <;> with_reducible rfl)
           simp only [Act.put, List.setIfInBounds_toArray, List.set_cons_zero, List.set_cons_succ])
        | (refine h_skip (i := 9) hHeld rfl (by kernel_rfl) (by kernel_rfl) (by kernel_rfl) ?_ ?_
           · rfl
           simp only [Act.put, List.setIfInBounds_toArray, List.set_cons_zero, List.set_cons_succ])
      clear hHeld bq
      refine h_done (by kernel_rfl) ?_
      go_wp2_with fail
      go_meet
      exact ⟨q, g2, rfl, rfl, hqz, hyz, hmz⟩
  case rest =>
    obtain ⟨q, g2, rfl, rfl, hq, hy, hm2⟩ := hcut
    have bq := blk_of hq.out
    have hBw := Lib.hid (hBX.out.trans (hy.out.mono (by have := hBX.out.size; omega)))
    have b8 : blk wc q8 = some (.cells #[.int .i64 (R : Nat), .int .i64 (k : Nat), .slice (some ⟨g, 0, none⟩) N N] 106 (0, 0)) := (blk_below hy.out hX8).trans (blk_of x0h.out)
    have b8h := Lib.hid b8
    have hpc := Lib.hid (hph.out.below hBw.out hpl)
    have hm1 := Lib.hid (hmX.out.below hy.out)
    clear b8
    go_wp2_with fail
    refine (kin.out wc g2 hpc.out hm2.out).mono ?_
    rintro e w3 ⟨h3, _⟩
    obtain ⟨g3, rfl, hg3, hm3, hb3⟩ := h3 hpv.out
    rw [hMh.out]
    have hb3h := Lib.hid (hBw.out.trans (hb3.mono hBw.out.size))
    have b3 : blk w3 q8 = some (.cells #[.int .i64 (R : Nat), .int .i64 (k : Nat), .slice (some ⟨g, 0, none⟩) N N] 106 (0, 0)) := (blk_below hb3 (by have := hy.out.size; omega)).trans b8h.out
    have hq8 : q8 < w3.heap.size := blk_lt b3
    have hm3h := Lib.hid hm3.mat
    have hm1b := Lib.hid (hm1.out.below hb3)
    have hg3l := hm3.lt
    have b3h := Lib.hid b3
    clear hm3 hb3 h3 bq b3
    go_upto_region 6 with (fail)
    obtain ⟨x0, x1, x2⟩ := boxed w3 #[.int .i64 0, .int .i64 0, .slice none 0 0] #[.int .i64 (k : Nat), .int .i64 (k : Nat), .slice (some ⟨g3, 0, none⟩) M M] 106
    generalize World.setRow (World.alloc w3 _) _ _ = Y at *
    have b8y := (blk_below x2 hq8).trans b3h.out
    have b12 := blk_of x0
    have hBY := Lib.hid (hb3h.out.trans (x2.mono hb3h.out.size))
    have hpy := Lib.hid (hph.out.below hBY.out hpl)
    have hmy1 := Lib.hid (hm1b.out.below x2)
    have hmy2 := Lib.hid (hm3h.out.below x2)
    generalize w3.heap.size = q12 at *
    clear x0 x1 x2
    go_wp2_with fail
    refine (kmu.out Y g g3 hpy.out hmy1.out hmy2.out).mono ?_
    rintro e w4 ⟨g4, rfl, hg4, hm4, hb4⟩
    rw [hNh.out]
    have hb4h := Lib.hid (hBY.out.trans (hb4.mono hBY.out.size))
    have hm4h := Lib.hid hm4
    have hg4l := hm4.lt
    clear hm4 hb4 b8y b12
    go_upto_region 7 with (fail)
    obtain ⟨x0, x1, x2⟩ := boxed w4 #[.int .i64 0, .int .i64 0, .slice none 0 0] #[.int .i64 (R : Nat), .int .i64 (k : Nat), .slice (some ⟨g4, 0, none⟩) N N] 106
    generalize World.setRow (World.alloc w4 _) _ _ = Z at *
    have b14 := blk_of x0
    have hBZ := Lib.hid (hb4h.out.trans (x2.mono hb4h.out.size))
    have hmz := Lib.hid (hm4h.out.below x2 hg4l)
    generalize w4.heap.size = q14 at *
    clear x0 x1 x2
    go_wp2_with fail
    have hfo := hfin.out
    go_ret2
    exact ⟨_, rfl, by have := hBZ.out.size; omega, hfo _ _ g4 (last_block0 Z _ _ rfl) (hmz.out.mat.below (below_one Z _)), hBZ.out.alloc (hBZ.out.size) _⟩
end Go.Proofs.Ytipfoclmdbbjiaa

/- rs's Encode: the parity rows. Conditions: the code's block, the tables' block, what the rows read as. -/
namespace Go.Proofs.Ytipfoclmdbbjiaa
open Go.RowKit
/-- the parity rows -/
def paF (k : Nat) (V : Nat → Nat → Nat) : Nat → Nat → Nat := mlF (pkF (rsF k) (fun i => k + i)) V k
set_option maxRecDepth 100000 in
theorem rs_bd (k : Nat) : Bd2 (rsF k) := fun r c => by unfold rsF; exact ml_bd _ _ _ _ _
attribute [local irreducible] gexp gtbl glog rmul rinv rpow zexp mixF blk flF BRow MRow MAt By IsGf ivS rsF mlF RowsAt
set_option maxRecDepth 100000 in
set_option maxHeartbeats 4000000 in
theorem s_encode (c p k m n : Nat) (s : Option Addr) (cap : Nat) (V : Nat → Nat → Nat) (w : World) (hc : CodeAt w c p k m) (hp : IsGf w p) (hs : RowsAt w s k n V) (hV : Bd2 V) (h0 : 1 ≤ k) (hkm : k + m ≤ 255) (hn : n ≤ 1200) :
    Calls Try.prog 34 #[.pointer (some ⟨c, 0, none⟩), .slice s k cap] w (ApPost2 w m n (paF k V)) := by
  have hz := zeroM
  have hph := Lib.hid hp
  have hpl := hp.lt
  have hsh := Lib.hid hs
  have hVh := Lib.hid hV
  obtain ⟨g, hb, hm⟩ := hc
  have hcl : c < w.heap.size := (Array.getElem?_eq_some_iff.1 hb).1
  have hmh := Lib.hid hm
  have hbh := Lib.hid hb
  have klen := Lib.hid (fun y (h : RowsAt y s k n V) => s_length n k s cap y h.lens (by omega) (by omega) hn)
  have kpk := Lib.hid (fun y (s2 : Option Addr) (c2 : Nat) (ha : MAt y (some ⟨g, 0, none⟩) (k + m) k (rsF k)) (hr : ZAt y .i64 s2 m (fun i => (k + i : Nat))) => m_pick (k + m) k m m (some ⟨g, 0, none⟩) s2 ((k + m) * k) c2 (rsF k) (fun i => (k + i : Nat)) y ha hr hkm (by omega) (by omega) (Nat.le_refl _) (Nat.le_refl _) (fun j hj => by omega) (fun h => absurd h (Nat.lt_irrefl _)))
  have kap := Lib.hid (fun y g2 (hy : IsGf y p) (ha : MAt y (some ⟨g2, 0, none⟩) m k (pkF (rsF k) (fun i => k + i))) (hr : RowsAt y s k n V) => m_apply2 p m k n (some ⟨g2, 0, none⟩) s (m * k) cap (pkF (rsF k) (fun i => k + i)) V y hy ha hr (fun r c => rs_bd k _ _) hV (by omega) (by omega) (Nat.le_refl _) (by omega) (fun e => by omega))
  have hpa : Hid (mlF (pkF (rsF k) (fun i => k + i)) V k = paF k V) := hide (by unfold paF; rfl)
  rw [hpa.out] at kap
  obtain ⟨R, hR⟩ : ∃ R, k + m = R := ⟨_, rfl⟩
  rw [hR] at kpk hmh hbh
  obtain ⟨N, hN⟩ : ∃ N, R * k = N := ⟨_, rfl⟩
  rw [hN] at kpk hbh
  obtain ⟨M, hM⟩ : ∃ M, m * k = M := ⟨_, rfl⟩
  rw [hM] at kap
  have hMh := Lib.hid hM
  have t0 := bne_cast_f k
  have hkR : k ≤ R := by omega
  have hmR : m ≤ R := by omega
  have hR2 : R ≤ 255 := by omega
  have hcell : Hid (∀ y i v, Below w.heap.size w y → (#[.int .i64 (k : Nat), .int .i64 (m : Nat), .pointer (some ⟨p, 0, none⟩), .int .i64 (R : Nat), .int .i64 (k : Nat), .slice (some ⟨g, 0, none⟩) N N] : Array Value)[i]? = some v → y.cell? ⟨c, i, none⟩ = some v) := hide (fun y i v hy h => by
    have := hbh.out
    rw [← hy.block c hcl] at this
    exact (cell_of_block this).trans h)
  clear hp hs hV hb hm hN hM hpa
  have c0 := hcell.out w 0 _ (Below.refl _ _) rfl
  have c1 := hcell.out w 1 _ (Below.refl _ _) rfl
  go_enter Try.func34, Try.ntmps34
  go_wp2_with fail
  refine (klen.out w hsh.out).mono ?_
  rintro e w1 ⟨rfl, rfl⟩
  go_upto_region 8 with (fail)
  clear c0 c1
  go_loopw [8, 31] (fun v8 v31 wr => ∃ i : Nat, i ≤ m ∧ v31 = .int .i64 (i : Nat) ∧ Hid (OwnZ wr w.heap.size 3 .i64 v8 i (fun j => (k + j : Nat))) ∧ Hid (Below w.heap.size w wr)) (fun _ v31 _ => m - (intOf v31).toNat)
  case atStart => exact ⟨0, by omega, rfl, hide (OwnZ.nil _ _ _ _ _), hide (Below.refl _ _)⟩
  case round =>
    obtain ⟨i, hi, rfl, ho, hB⟩ := hrel
    have hsz := hB.out.size
    by_cases him : i < m
    · have i1 : (i : Int) < (m : Int) := by omega
      have c0 := hcell.out wr 0 _ hB.out rfl
      have hki := Lib.hid (show (k : Int) + (i : Int) = ((k + i : Nat) : Int) by omega)
      go_wp2_with (at_builtin; refine wpList_snocX Try.underlying110 infoInt (by decide) rfl (.tmp 34) (.tmp 41) rfl wr _ w.heap.size i (fun j => (k + j : Nat)) ((k : Int) + (i : Int)) hki.out rfl rfl rfl ho.out (by omega) hsz ?_; intro v' w6 ho6 hgr; have hO6 := Lib.hid ho6; have hL6 := Lib.hid (below_grown hB.out (Nat.le_refl _) hgr (fun b hb => (ho.out.lt b hb).1)); clear ho6 hgr)
      go_roundw
      case rel => exact ⟨i + 1, by omega, by go_num, hO6, hL6⟩
      case measure => simp [intOf]; omega
    · obtain rfl : i = m := by omega
      have i1 : decide ((i : Int) < (i : Int)) = false := by simp
      obtain ⟨s2, cap2, rfl, z2, _, _, _⟩ := ho.out.open
      have z2h := Lib.hid z2
      have c3 := hcell.out wr 3 _ hB.out rfl
      have c4 := hcell.out wr 4 _ hB.out rfl
      have c5 := hcell.out wr 5 _ hB.out rfl
      clear ho z2
      go_wp2_with fail
      refine (kpk.out wr s2 cap2 (hmh.out.below hB.out) z2h.out).mono ?_
      rintro e w3 (⟨_, g2, rfl, hg2, hm2, hb3⟩ | ⟨h, _⟩)
      · rw [hMh.out]
        have hB3 := Lib.hid (hB.out.trans (hb3.mono hsz))
        have hm2h := Lib.hid (hm2.congr (F' := pkF (rsF k) (fun i => k + i)) (fun r c _ _ => rfl))
        have hw3 := hB3.out.size
        have hg2l := hm2.lt
        clear hm2 hb3 c3 c4 c5
        go_upto_region 13 with (fail)
        have x0 := last_block0 w3 (.cells #[.int .i64 (i : Nat), .int .i64 (k : Nat), .slice (some ⟨g2, 0, none⟩) M M] 106) _ rfl
        have x2 := below_one w3 (.cells #[.int .i64 (i : Nat), .int .i64 (k : Nat), .slice (some ⟨g2, 0, none⟩) M M] 106)
        generalize World.alloc w3 _ = X at *
        have hBX := Lib.hid (hB3.out.trans (x2.mono hw3))
        have hBd : Hid (Below w.heap.size w X.drew) := hide (below_drewN hBX.out 1)
        have hmX := Lib.hid ((hm2h.out.below x2 hg2l).mat.below (below_drewN (Below.refl _ _) 1))
        obtain ⟨q, hq⟩ : ∃ q, w3.heap.size = q := ⟨_, rfl⟩
        rw [hq] at x0 ⊢
        have hqX : q < X.heap.size := (Array.getElem?_eq_some_iff.1 x0).1
        have hS : Hid (∀ y, Below X.heap.size X y → (fun y : World => y.cell? ⟨c, 2, none⟩ = some (.pointer (some ⟨p, 0, none⟩)) ∧ y.cell? ⟨q, 0, none⟩ = some (.int .i64 (i : Nat)) ∧ y.cell? ⟨q, 1, none⟩ = some (.int .i64 (k : Nat)) ∧ y.cell? ⟨q, 2, none⟩ = some (.slice (some ⟨g2, 0, none⟩) M M)) y) := hide (fun y hy => by
          have x1 := (hy.block q hqX).trans x0
          exact ⟨hcell.out y 2 _ (hBX.out.trans (hy.mono hBX.out.size)) rfl, (cell_of_block x1).trans rfl, (cell_of_block x1).trans rfl, (cell_of_block x1).trans rfl⟩)
        clear x0 x2 hq
        refine h_begin 11 (fun y : World => y.cell? ⟨c, 2, none⟩ = some (.pointer (some ⟨p, 0, none⟩)) ∧ y.cell? ⟨q, 0, none⟩ = some (.int .i64 (i : Nat)) ∧ y.cell? ⟨q, 1, none⟩ = some (.int .i64 (k : Nat)) ∧ y.cell? ⟨q, 2, none⟩ = some (.slice (some ⟨g2, 0, none⟩) M M)) rfl (by kernel_rfl) (hS.out _ (below_drewN (Below.refl _ _) 1)) ?_
        have hHeld : (fun y : World => y.cell? ⟨c, 2, none⟩ = some (.pointer (some ⟨p, 0, none⟩)) ∧ y.cell? ⟨q, 0, none⟩ = some (.int .i64 (i : Nat)) ∧ y.cell? ⟨q, 1, none⟩ = some (.int .i64 (k : Nat)) ∧ y.cell? ⟨q, 2, none⟩ = some (.slice (some ⟨g2, 0, none⟩) M M)) X.drew := hS.out _ (below_drewN (Below.refl _ _) 1)
        first
          | (refine h_run (i := 0) (v := ?_) hHeld rfl (by kernel_rfl) (by kernel_rfl) (by kernel_rfl) ?_ ?_ ?_
             rotate_left
             · rfl
             · (intro x hSx; (try dsimp only at hSx); go_simp <;> with_reducible rfl)
             simp only [Act.put, List.setIfInBounds_toArray, List.set_cons_zero, List.set_cons_succ])
          | (refine h_skip (i := 0) hHeld rfl (by kernel_rfl) (by kernel_rfl) (by kernel_rfl) ?_ ?_
             · rfl
             simp only [Act.put, List.setIfInBounds_toArray, List.set_cons_zero, List.set_cons_succ])
        first
          | (refine h_run (i := 1) (v := ?_) hHeld rfl (by kernel_rfl) (by kernel_rfl) (by kernel_rfl) ?_ ?_ ?_
             rotate_left
             · rfl
             · (intro x hSx; (try dsimp only at hSx); go_simp <;> with_reducible rfl)
             simp only [Act.put, List.setIfInBounds_toArray, List.set_cons_zero, List.set_cons_succ])
          | (refine h_skip (i := 1) hHeld rfl (by kernel_rfl) (by kernel_rfl) (by kernel_rfl) ?_ ?_
             · rfl
             simp only [Act.put, List.setIfInBounds_toArray, List.set_cons_zero, List.set_cons_succ])
        first
          | (refine h_run (i := 2) (v := ?_) hHeld rfl (by kernel_rfl) (by kernel_rfl) (by kernel_rfl) ?_ ?_ ?_
             rotate_left
             · rfl
             · (intro x hSx; (try dsimp only at hSx); go_simp <;> with_reducible rfl)
             simp only [Act.put, List.setIfInBounds_toArray, List.set_cons_zero, List.set_cons_succ])
          | (refine h_skip (i := 2) hHeld rfl (by kernel_rfl) (by kernel_rfl) (by kernel_rfl) ?_ ?_
             · rfl
             simp only [Act.put, List.setIfInBounds_toArray, List.set_cons_zero, List.set_cons_succ])
        first
          | (refine h_run (i := 3) (v := ?_) hHeld rfl (by kernel_rfl) (by kernel_rfl) (by kernel_rfl) ?_ ?_ ?_
             rotate_left
             · rfl
             · (intro x hSx; (try dsimp only at hSx); go_simp <;> with_reducible rfl)
             simp only [Act.put, List.setIfInBounds_toArray, List.set_cons_zero, List.set_cons_succ])
          | (refine h_skip (i := 3) hHeld rfl (by kernel_rfl) (by kernel_rfl) (by kernel_rfl) ?_ ?_
             · rfl
             simp only [Act.put, List.setIfInBounds_toArray, List.set_cons_zero, List.set_cons_succ])
        first
          | (refine h_run (i := 4) (v := ?_) hHeld rfl (by kernel_rfl) (by kernel_rfl) (by kernel_rfl) ?_ ?_ ?_
             rotate_left
             · rfl
             · (intro x hSx; (try dsimp only at hSx); go_simp <;> with_reducible rfl)
             simp only [Act.put, List.setIfInBounds_toArray, List.set_cons_zero, List.set_cons_succ])
          | (refine h_skip (i := 4) hHeld rfl (by kernel_rfl) (by kernel_rfl) (by kernel_rfl) ?_ ?_
             · rfl
             simp only [Act.put, List.setIfInBounds_toArray, List.set_cons_zero, List.set_cons_succ])
        first
          | (refine h_run (i := 5) (v := ?_) hHeld rfl (by kernel_rfl) (by kernel_rfl) (by kernel_rfl) ?_ ?_ ?_
             rotate_left
             · rfl
             · (intro x hSx; (try dsimp only at hSx); go_simp <;> with_reducible rfl)
             simp only [Act.put, List.setIfInBounds_toArray, List.set_cons_zero, List.set_cons_succ])
          | (refine h_skip (i := 5) hHeld rfl (by kernel_rfl) (by kernel_rfl) (by kernel_rfl) ?_ ?_
             · rfl
             simp only [Act.put, List.setIfInBounds_toArray, List.set_cons_zero, List.set_cons_succ])
        clear hHeld
        refine h_call (i := 6) (fun y : World => y.cell? ⟨c, 2, none⟩ = some (.pointer (some ⟨p, 0, none⟩)) ∧ y.cell? ⟨q, 0, none⟩ = some (.int .i64 (i : Nat)) ∧ y.cell? ⟨q, 1, none⟩ = some (.int .i64 (k : Nat)) ∧ y.cell? ⟨q, 2, none⟩ = some (.slice (some ⟨g2, 0, none⟩) M M)) (fun _ h => h) (kap.out X.drew g2 (hph.out.below hBd.out hpl) hmX.out (hsh.out.below hBd.out)) rfl (by kernel_rfl) rfl ?_ ?_
        · go_simp <;> with_reducible rfl
        rintro e w5 ⟨g5, rfl, hg5, hap, hb5⟩
        have hfin : Hid (ApPost2 w i n (paF k V) (.returned (.tuple #[.slice (some ⟨g5, 0, none⟩) i i, .int .i64 0])) w5) := hide ⟨g5, rfl, by have := hBd.out.size; omega, hap, hBd.out.trans (hb5.mono hBd.out.size)⟩
        have hHeld : (fun y : World => y.cell? ⟨c, 2, none⟩ = some (.pointer (some ⟨p, 0, none⟩)) ∧ y.cell? ⟨q, 0, none⟩ = some (.int .i64 (i : Nat)) ∧ y.cell? ⟨q, 1, none⟩ = some (.int .i64 (k : Nat)) ∧ y.cell? ⟨q, 2, none⟩ = some (.slice (some ⟨g2, 0, none⟩) M M)) w5 := hS.out _ ((below_drewN (Below.refl X.heap.size X) 1).trans hb5)
        refine ⟨_, rfl, hHeld, ?_⟩
        clear hap hb5
        first
          | (refine h_run (i := 7) (v := ?_) hHeld rfl (by kernel_rfl) (by kernel_rfl) (by kernel_rfl) ?_ ?_ ?_
             rotate_left
             · rfl
             · (intro x hSx; (try dsimp only at hSx); go_simp <;> with_reducible rfl)
             simp only [Act.put, List.setIfInBounds_toArray, List.set_cons_zero, List.set_cons_succ])
          | (refine h_skip (i := 7) hHeld rfl (by kernel_rfl) (by kernel_rfl) (by kernel_rfl) ?_ ?_
             · rfl
             simp only [Act.put, List.setIfInBounds_toArray, List.set_cons_zero, List.set_cons_succ])
        first
          | (refine h_run (i := 8) (v := ?_) hHeld rfl (by kernel_rfl) (by kernel_rfl) (by kernel_rfl) ?_ ?_ ?_
             rotate_left
             · rfl
             · (intro x hSx; (try dsimp only at hSx); go_simp <;> with_reducible rfl)
             simp only [Act.put, List.setIfInBounds_toArray, List.set_cons_zero, List.set_cons_succ])
          | (refine h_skip (i := 8) hHeld rfl (by kernel_rfl) (by kernel_rfl) (by kernel_rfl) ?_ ?_
             · rfl
             simp only [Act.put, List.setIfInBounds_toArray, List.set_cons_zero, List.set_cons_succ])
        first
          | (refine h_run (i := 9) (v := ?_) hHeld rfl (by kernel_rfl) (by kernel_rfl) (by kernel_rfl) ?_ ?_ ?_
             rotate_left
             · rfl
             · (intro x hSx; (try dsimp only at hSx); go_simp <;> with_reducible rfl)
             simp only [Act.put, List.setIfInBounds_toArray, List.set_cons_zero, List.set_cons_succ])
          | (refine h_skip (i := 9) hHeld rfl (by kernel_rfl) (by kernel_rfl) (by kernel_rfl) ?_ ?_
             · rfl
             simp only [Act.put, List.setIfInBounds_toArray, List.set_cons_zero, List.set_cons_succ])
        first
          | (refine h_run (i := 10) (v := ?_) hHeld rfl (by kernel_rfl) (by kernel_rfl) (by kernel_rfl) ?_ ?_ ?_
             rotate_left
             · rfl
             · (intro x hSx; (try dsimp only at hSx); go_simp <;> with_reducible rfl)
             simp only [Act.put, List.setIfInBounds_toArray, List.set_cons_zero, List.set_cons_succ])
          | (refine h_skip (i := 10) hHeld rfl (by kernel_rfl) (by kernel_rfl) (by kernel_rfl) ?_ ?_
             · rfl
             simp only [Act.put, List.setIfInBounds_toArray, List.set_cons_zero, List.set_cons_succ])
        refine h_done (by kernel_rfl) ?_
        clear hHeld
        go_wp2_with fail
        go_ret2
        exact hfin.out
      · exact absurd h (Nat.lt_irrefl _)
end Go.Proofs.Ytipfoclmdbbjiaa

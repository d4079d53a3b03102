import Derived.Test.YtmfagdbocidfjaaV30
import Derived.Test.YtmfagdbocidfjaaV21
/- A group's datagrams: the package's, the document's, whether two are alike. Conditions: what the rows read as. -/
namespace Go.Proofs.Ytmfagdbocidfjaa
open Go.RowKit
set_option maxRecDepth 100000 in
theorem dg_info : (Try.prog.info? 73).map (·.size) = some 11 := by kernel_rfl
set_option maxRecDepth 100000 in
theorem dg_size (a b c d e f g h i j k : Value) : #[a, b, c, d, e, f, g, h, i, j, k].size = 11 := rfl
set_option maxRecDepth 100000 in
theorem dg_plain (k0 k1 k2 k3 k4 k5 k6 k7 k8 k9 : IntKind) (x0 x1 x2 x3 x4 x5 x6 x7 x8 x9 : Int) (s : Option Addr) (n m : Nat) : Plain #[.int k0 x0, .int k1 x1, .int k2 x2, .int k3 x3, .int k4 x4, .int k5 x5, .int k6 x6, .int k7 x7, .int k8 x8, .int k9 x9, .slice s n m] := by unfold Plain; simp [Value.oneCell']
set_option maxRecDepth 100000 in
theorem ld_d0 (v : Value) : Instr.loadAt 73 v = wLoad 73 v := rfl
set_option maxRecDepth 100000 in
theorem ld_d (w : World) (b : Nat) : (wLoad 73 (.pointer (some ⟨b, 0, none⟩))).run Try.prog w = loadAns 11 w (blk w b) (wLoadRes Try.prog 73 b w) := run_wLoad Try.underlying73 rfl dg_info w b
set_option maxRecDepth 100000 in
theorem sto_d0 (p x : Value) : Instr.storeAt 73 p x = wStore 73 p x := rfl
set_option maxRecDepth 100000 in
theorem sto_d (w : World) (b : Nat) (C : Array Value) : (wStore 73 (.pointer (some ⟨b, 0, none⟩)) (.agg C)).run Try.prog w = storeAns 11 w b C (blk w b) (wStoreRes Try.prog 73 b C w) := run_wStore dg_info w b C
set_option maxRecDepth 100000 in
theorem zeroDG (w : World) : (zeroValue 73).run Try.prog w = .ok (.agg #[.int .i64 0, .int .u32 0, .int .u32 0, .int .i64 0, .int .u32 0, .int .u32 0, .int .u32 0, .int .i64 0, .int .i64 0, .int .i64 0, .slice none 0 0]) w := by kernel_rfl
set_option maxRecDepth 100000 in
theorem cell_setRow_ne (w : World) (g b o : Nat) (C : Array Value) (h : b ≠ g) : (w.setRow g C).cell? ⟨b, o, none⟩ = w.cell? ⟨b, o, none⟩ := by
  have h1 := setRow_other w g b C h
  simp only [World.cell?, h1]
/-- which kind the shard i is of -/
def dgK (K i : Nat) : Int := if K ≤ i then 3 else 2
/-- a shard's datagram: its bytes are a copy -/
def DgPost (W : World) (no fi : Int) (K m i : Nat) (f : Nat → Nat) (e : Ending) (W' : World) : Prop :=
  ∃ g c, e = .returned (.tuple #[.agg #[.int .i64 (dgK K i), .int .u32 0, .int .u32 0, .int .i64 0, .int .u32 0, .int .u32 no, .int .u32 fi, .int .i64 (K : Nat), .int .i64 (m : Nat), .int .i64 (i : Nat), .slice (some ⟨g, 0, none⟩) 2 c], .int .i64 0]) ∧ W.heap.size ≤ g ∧ BRow W' g 2 f ∧ Below W.heap.size W W'
/-- there is none -/
def DgNo (W : World) (e : Ending) (W' : World) : Prop := e = .returned (.tuple #[.agg #[.int .i64 0, .int .u32 0, .int .u32 0, .int .i64 0, .int .u32 0, .int .u32 0, .int .u32 0, .int .i64 0, .int .i64 0, .int .i64 0, .slice none 0 0], .int .i64 62]) ∧ Below W.heap.size W W'
attribute [local irreducible] gexp gtbl glog rmul rinv rpow zexp mixF blk wLoad wLoadRes loadAns wStore wStoreRes storeAns Plain flF MRow MAt IsGf ivS rsF mlF RowsAt paF OwnS SlR dtF inV grD
attribute [local go_sem ↓] ld_d0 sto_d0 ld_g0 sto_g0
attribute [local go_sem] ld_d sto_d ld_g sto_g loadAns_some storeAns_some gg_size gg_plain dg_size dg_plain blk_alloc_if blk_setRow_if blk_drew_at blk_drewN_at rowPut_some blk_setCell_if cellPut_some
set_option maxRecDepth 100000 in
set_option maxHeartbeats 4000000 in
theorem g_datagram_no (no fi K m : Int) (s : Option Addr) (L cap : Nat) (i : Int) (w : World) (h : i < 0 ∨ (L : Int) ≤ i) :
    Calls Try.prog 22 #[.agg #[.int .u32 no, .int .u32 fi, .int .i64 K, .int .i64 m, .slice s L cap], .int .i64 i] w (DgNo w) := by
  have hz := zeroDG
  obtain ⟨h0, h1, hs, hB⟩ := two_allocs w (.cells #[.int .u32 no, .int .u32 fi, .int .i64 K, .int .i64 m, .slice s L cap] 70) (.cells #[.int .i64 0, .int .u32 0, .int .u32 0, .int .i64 0, .int .u32 0, .int .u32 0, .int .u32 0, .int .i64 0, .int .i64 0, .int .i64 0, .slice none 0 0] 73)
  have d4 : (decide (i < 0) = true) ∨ (decide (i < 0) = false ∧ decide ((L : Int) ≤ i) = true) := by
    simp only [decide_eq_true_eq, decide_eq_false_iff_not]
    omega
  have hfin : Hid (DgNo w (.returned (.tuple #[.agg #[.int .i64 0, .int .u32 0, .int .u32 0, .int .i64 0, .int .u32 0, .int .u32 0, .int .u32 0, .int .i64 0, .int .i64 0, .int .i64 0, .slice none 0 0], .int .i64 62])) (((w.alloc (.cells #[.int .u32 no, .int .u32 fi, .int .i64 K, .int .i64 m, .slice s L cap] 70)).alloc (.cells #[.int .i64 0, .int .u32 0, .int .u32 0, .int .i64 0, .int .u32 0, .int .u32 0, .int .u32 0, .int .i64 0, .int .i64 0, .int .i64 0, .slice none 0 0] 73)).setRow (w.heap.size + 1) #[.int .i64 0, .int .u32 0, .int .u32 0, .int .i64 0, .int .u32 0, .int .u32 0, .int .u32 0, .int .i64 0, .int .i64 0, .int .i64 0, .slice none 0 0])) := hide ⟨rfl, below_setRow hB (by omega) _⟩
  have b4 := Lib.hid (blk_of h1)
  have c4 := (cell_of_block h0).trans (show #[.int .u32 no, .int .u32 fi, .int .i64 K, .int .i64 m, .slice s L cap][4]? = some (Value.slice s L cap) from rfl)
  clear h h0 h1 hs hB
  rcases d4 with e0 | ⟨e0, e1⟩ <;>
  · go_enter Try.func22, Try.ntmps22
    go_upto_region 1 with (fail)
    generalize World.alloc (World.alloc w _) _ = W at *
    have b4' := b4.out
    go_wp2_with fail
    refine bodyPost_ret (v := .tuple #[.agg #[.int .i64 0, .int .u32 0, .int .u32 0, .int .i64 0, .int .u32 0, .int .u32 0, .int .u32 0, .int .i64 0, .int .i64 0, .int .i64 0, .slice none 0 0], .int .i64 62]) (results_row_tmp rfl _ _ (w.heap.size + 1) 73 _ (0, 0) _ _ rfl rfl (setRow_heap _ _ _ _ _ _ (blk_heap b4.out)) Try.underlying73 rfl dg_info) rfl hfin.out
set_option maxRecDepth 100000 in
set_option maxHeartbeats 4000000 in
theorem g_datagram (no fi : Int) (K m i L sb so cap rg rc : Nat) (f : Nat → Nat) (w : World) (hi : i < L) (hrow : w.cell? ⟨sb, so + i, none⟩ = some (.slice (some ⟨rg, 0, none⟩) 2 rc)) (hr : BRow w rg 2 f) :
    Calls Try.prog 22 #[.agg #[.int .u32 no, .int .u32 fi, .int .i64 (K : Nat), .int .i64 (m : Nat), .slice (some ⟨sb, so, none⟩) L cap], .int .i64 (i : Nat)] w (DgPost w no fi K m i f) := by
  have hz := zeroDG
  obtain ⟨h0, h1, hs, hB⟩ := two_allocs w (.cells #[.int .u32 no, .int .u32 fi, .int .i64 (K : Nat), .int .i64 (m : Nat), .slice (some ⟨sb, so, none⟩) L cap] 70) (.cells #[.int .i64 0, .int .u32 0, .int .u32 0, .int .i64 0, .int .u32 0, .int .u32 0, .int .u32 0, .int .i64 0, .int .i64 0, .int .i64 0, .slice none 0 0] 73)
  have d0 : decide ((i : Int) < 0) = false := decide_eq_false (by omega)
  have d1 : decide ((L : Int) ≤ (i : Int)) = false := decide_eq_false (by omega)
  have d2 : decide (L ≤ i) = false := decide_eq_false (by omega)
  have i1 : (i : Int) < (L : Int) := by omega
  go_enter Try.func22, Try.ntmps22
  go_upto_region 1 with (fail)
  generalize World.alloc (World.alloc w _) _ = W at *
  have hne : w.heap.size ≠ w.heap.size + 1 := by omega
  have h0h := Lib.hid h0
  have h1h := Lib.hid h1
  have hBh := Lib.hid hB
  have hsh := Lib.hid hs
  have hrW := Lib.hid ((hB.cell (p := ⟨sb, so + i, none⟩) (cell_block_lt hrow)).trans hrow)
  have hrh := Lib.hid (hr.below hB hr.lt)
  have hrl := hr.lt
  have hsbw : sb ≠ w.heap.size + 1 := by have := cell_block_lt hrow; simp only at this; omega
  have c4 := (cell_of_block h0).trans (show #[.int .u32 no, .int .u32 fi, .int .i64 (K : Nat), .int .i64 (m : Nat), .slice (some ⟨sb, so, none⟩) L cap][4]? = some (Value.slice (some ⟨sb, so, none⟩) L cap) from rfl)
  have c2 := (cell_of_block h0).trans (show #[.int .u32 no, .int .u32 fi, .int .i64 (K : Nat), .int .i64 (m : Nat), .slice (some ⟨sb, so, none⟩) L cap][2]? = some (Value.int .i64 (K : Nat)) from rfl)
  have c3 := (cell_of_block h0).trans (show #[.int .u32 no, .int .u32 fi, .int .i64 (K : Nat), .int .i64 (m : Nat), .slice (some ⟨sb, so, none⟩) L cap][3]? = some (Value.int .i64 (m : Nat)) from rfl)
  have c0 := (cell_of_block h0).trans (show #[.int .u32 no, .int .u32 fi, .int .i64 (K : Nat), .int .i64 (m : Nat), .slice (some ⟨sb, so, none⟩) L cap][0]? = some (Value.int .u32 no) from rfl)
  have c1 := (cell_of_block h0).trans (show #[.int .u32 no, .int .u32 fi, .int .i64 (K : Nat), .int .i64 (m : Nat), .slice (some ⟨sb, so, none⟩) L cap][1]? = some (Value.int .u32 fi) from rfl)
  have hS : Hid (∀ y, Below W.heap.size W y → (fun y : World => y.cell? ⟨w.heap.size, 0, none⟩ = some (.int .u32 no) ∧ y.cell? ⟨w.heap.size, 1, none⟩ = some (.int .u32 fi) ∧ y.cell? ⟨w.heap.size, 2, none⟩ = some (.int .i64 (K : Nat)) ∧ y.cell? ⟨w.heap.size, 3, none⟩ = some (.int .i64 (m : Nat)) ∧ y.cell? ⟨w.heap.size, 4, none⟩ = some (.slice (some ⟨sb, so, none⟩) L cap) ∧ y.cell? ⟨sb, so + i, none⟩ = some (.slice (some ⟨rg, 0, none⟩) 2 rc)) y) := hide (fun y hy =>
    ⟨(hy.cell (cell_block_lt c0)).trans c0, (hy.cell (cell_block_lt c1)).trans c1, (hy.cell (cell_block_lt c2)).trans c2, (hy.cell (cell_block_lt c3)).trans c3, (hy.cell (cell_block_lt c4)).trans c4, (hy.cell (cell_block_lt hrW.out)).trans hrW.out⟩)
  clear h0 h1 hB hs hrow hr c0 c1 c3
  obtain ⟨kd, hkd⟩ : ∃ kd, dgK K i = kd := ⟨_, rfl⟩
  have hkh : Hid (∀ g c W', W.heap.size ≤ g → BRow W' g 2 f → Below w.heap.size w W' → DgPost w no fi K m i f (.returned (.tuple #[.agg #[.int .i64 kd, .int .u32 0, .int .u32 0, .int .i64 0, .int .u32 0, .int .u32 no, .int .u32 fi, .int .i64 (K : Nat), .int .i64 (m : Nat), .int .i64 (i : Nat), .slice (some ⟨g, 0, none⟩) 2 c], .int .i64 0])) W') := hide (fun g c W' h1 h2 h3 => ⟨g, c, by rw [hkd], by have := hBh.out.size; omega, h2, h3⟩)
  go_upto_if 20 with (fail)
  go_cut [6] (fun v6 wx => W = wx ∧ v6 = .int .i64 kd)
  case first =>
    unfold dgK at hkd
    by_cases hk : K ≤ i
    · rw [if_pos hk] at hkd
      have k1 : (K : Int) ≤ (i : Int) := by omega
      go_wp2_with fail
      go_meet
      exact ⟨rfl, by first | rfl | rw [hkd]⟩
    · rw [if_neg hk] at hkd
      have k1 : decide ((K : Int) ≤ (i : Int)) = false := decide_eq_false (by omega)
      have k2 : decide (K ≤ i) = false := decide_eq_false hk
      go_wp2_with fail
      go_meet
      exact ⟨rfl, by first | rfl | rw [hkd]⟩
  case rest =>
    obtain ⟨rfl, rfl⟩ := hcut
    clear c4 c2 hkd
    go_upto_region 6 with (fail)
    have hD : Hid (Below W.heap.size W W.drew) := hide (below_drewN (Below.refl _ _) 1)
    have hHeld := hS.out _ hD.out
    refine h_begin 20 (fun y : World => y.cell? ⟨w.heap.size, 0, none⟩ = some (.int .u32 no) ∧ y.cell? ⟨w.heap.size, 1, none⟩ = some (.int .u32 fi) ∧ y.cell? ⟨w.heap.size, 2, none⟩ = some (.int .i64 (K : Nat)) ∧ y.cell? ⟨w.heap.size, 3, none⟩ = some (.int .i64 (m : Nat)) ∧ y.cell? ⟨w.heap.size, 4, none⟩ = some (.slice (some ⟨sb, so, none⟩) L cap) ∧ y.cell? ⟨sb, so + i, none⟩ = some (.slice (some ⟨rg, 0, none⟩) 2 rc)) rfl (by kernel_rfl) hHeld ?_
    first
      | (refine h_run (i := 0) (v := ?_) hHeld rfl (by kernel_rfl) (by kernel_rfl) (by kernel_rfl) ?_ ?_ ?_
         rotate_left
         · rfl
         · (intro x hSx; (try dsimp only at hSx); go_simp <;> with_reducible rfl)
         simp only [Act.put, List.setIfInBounds_toArray, List.set_cons_zero, List.set_cons_succ])
      | (refine h_skip (i := 0) hHeld rfl (by kernel_rfl) (by kernel_rfl) (by kernel_rfl) ?_ ?_
         · rfl
         simp only [Act.put, List.setIfInBounds_toArray, List.set_cons_zero, List.set_cons_succ])
    first
      | (refine h_run (i := 1) (v := ?_) hHeld rfl (by kernel_rfl) (by kernel_rfl) (by kernel_rfl) ?_ ?_ ?_
         rotate_left
         · rfl
         · (intro x hSx; (try dsimp only at hSx); go_simp <;> with_reducible rfl)
         simp only [Act.put, List.setIfInBounds_toArray, List.set_cons_zero, List.set_cons_succ])
      | (refine h_skip (i := 1) hHeld rfl (by kernel_rfl) (by kernel_rfl) (by kernel_rfl) ?_ ?_
         · rfl
         simp only [Act.put, List.setIfInBounds_toArray, List.set_cons_zero, List.set_cons_succ])
    first
      | (refine h_run (i := 2) (v := ?_) hHeld rfl (by kernel_rfl) (by kernel_rfl) (by kernel_rfl) ?_ ?_ ?_
         rotate_left
         · rfl
         · (intro x hSx; (try dsimp only at hSx); go_simp <;> with_reducible rfl)
         simp only [Act.put, List.setIfInBounds_toArray, List.set_cons_zero, List.set_cons_succ])
      | (refine h_skip (i := 2) hHeld rfl (by kernel_rfl) (by kernel_rfl) (by kernel_rfl) ?_ ?_
         · rfl
         simp only [Act.put, List.setIfInBounds_toArray, List.set_cons_zero, List.set_cons_succ])
    first
      | (refine h_run (i := 3) (v := ?_) hHeld rfl (by kernel_rfl) (by kernel_rfl) (by kernel_rfl) ?_ ?_ ?_
         rotate_left
         · rfl
         · (intro x hSx; (try dsimp only at hSx); go_simp <;> with_reducible rfl)
         simp only [Act.put, List.setIfInBounds_toArray, List.set_cons_zero, List.set_cons_succ])
      | (refine h_skip (i := 3) hHeld rfl (by kernel_rfl) (by kernel_rfl) (by kernel_rfl) ?_ ?_
         · rfl
         simp only [Act.put, List.setIfInBounds_toArray, List.set_cons_zero, List.set_cons_succ])
    first
      | (refine h_run (i := 4) (v := ?_) hHeld rfl (by kernel_rfl) (by kernel_rfl) (by kernel_rfl) ?_ ?_ ?_
         rotate_left
         · rfl
         · (intro x hSx; (try dsimp only at hSx); go_simp <;> with_reducible rfl)
         simp only [Act.put, List.setIfInBounds_toArray, List.set_cons_zero, List.set_cons_succ])
      | (refine h_skip (i := 4) hHeld rfl (by kernel_rfl) (by kernel_rfl) (by kernel_rfl) ?_ ?_
         · rfl
         simp only [Act.put, List.setIfInBounds_toArray, List.set_cons_zero, List.set_cons_succ])
    first
      | (refine h_run (i := 5) (v := ?_) hHeld rfl (by kernel_rfl) (by kernel_rfl) (by kernel_rfl) ?_ ?_ ?_
         rotate_left
         · rfl
         · (intro x hSx; (try dsimp only at hSx); go_simp <;> with_reducible rfl)
         simp only [Act.put, List.setIfInBounds_toArray, List.set_cons_zero, List.set_cons_succ])
      | (refine h_skip (i := 5) hHeld rfl (by kernel_rfl) (by kernel_rfl) (by kernel_rfl) ?_ ?_
         · rfl
         simp only [Act.put, List.setIfInBounds_toArray, List.set_cons_zero, List.set_cons_succ])
    first
      | (refine h_run (i := 6) (v := ?_) hHeld rfl (by kernel_rfl) (by kernel_rfl) (by kernel_rfl) ?_ ?_ ?_
         rotate_left
         · rfl
         · (intro x hSx; (try dsimp only at hSx); go_simp <;> with_reducible rfl)
         simp only [Act.put, List.setIfInBounds_toArray, List.set_cons_zero, List.set_cons_succ])
      | (refine h_skip (i := 6) hHeld rfl (by kernel_rfl) (by kernel_rfl) (by kernel_rfl) ?_ ?_
         · rfl
         simp only [Act.put, List.setIfInBounds_toArray, List.set_cons_zero, List.set_cons_succ])
    first
      | (refine h_run (i := 7) (v := ?_) hHeld rfl (by kernel_rfl) (by kernel_rfl) (by kernel_rfl) ?_ ?_ ?_
         rotate_left
         · rfl
         · (intro x hSx; (try dsimp only at hSx); go_simp <;> with_reducible rfl)
         simp only [Act.put, List.setIfInBounds_toArray, List.set_cons_zero, List.set_cons_succ])
      | (refine h_skip (i := 7) hHeld rfl (by kernel_rfl) (by kernel_rfl) (by kernel_rfl) ?_ ?_
         · rfl
         simp only [Act.put, List.setIfInBounds_toArray, List.set_cons_zero, List.set_cons_succ])
    first
      | (refine h_run (i := 8) (v := ?_) hHeld rfl (by kernel_rfl) (by kernel_rfl) (by kernel_rfl) ?_ ?_ ?_
         rotate_left
         · rfl
         · (intro x hSx; (try dsimp only at hSx); go_simp <;> with_reducible rfl)
         simp only [Act.put, List.setIfInBounds_toArray, List.set_cons_zero, List.set_cons_succ])
      | (refine h_skip (i := 8) hHeld rfl (by kernel_rfl) (by kernel_rfl) (by kernel_rfl) ?_ ?_
         · rfl
         simp only [Act.put, List.setIfInBounds_toArray, List.set_cons_zero, List.set_cons_succ])
    first
      | (refine h_run (i := 9) (v := ?_) hHeld rfl (by kernel_rfl) (by kernel_rfl) (by kernel_rfl) ?_ ?_ ?_
         rotate_left
         · rfl
         · (intro x hSx; (try dsimp only at hSx); go_simp <;> with_reducible rfl)
         simp only [Act.put, List.setIfInBounds_toArray, List.set_cons_zero, List.set_cons_succ])
      | (refine h_skip (i := 9) hHeld rfl (by kernel_rfl) (by kernel_rfl) (by kernel_rfl) ?_ ?_
         · rfl
         simp only [Act.put, List.setIfInBounds_toArray, List.set_cons_zero, List.set_cons_succ])
    first
      | (refine h_run (i := 11) (v := ?_) hHeld rfl (by kernel_rfl) (by kernel_rfl) (by kernel_rfl) ?_ ?_ ?_
         rotate_left
         · rfl
         · (intro x hSx; (try dsimp only at hSx); go_simp <;> with_reducible rfl)
         simp only [Act.put, List.setIfInBounds_toArray, List.set_cons_zero, List.set_cons_succ])
      | (refine h_skip (i := 11) hHeld rfl (by kernel_rfl) (by kernel_rfl) (by kernel_rfl) ?_ ?_
         · rfl
         simp only [Act.put, List.setIfInBounds_toArray, List.set_cons_zero, List.set_cons_succ])
    first
      | (refine h_run (i := 12) (v := ?_) hHeld rfl (by kernel_rfl) (by kernel_rfl) (by kernel_rfl) ?_ ?_ ?_
         rotate_left
         · rfl
         · (intro x hSx; (try dsimp only at hSx); go_simp <;> with_reducible rfl)
         simp only [Act.put, List.setIfInBounds_toArray, List.set_cons_zero, List.set_cons_succ])
      | (refine h_skip (i := 12) hHeld rfl (by kernel_rfl) (by kernel_rfl) (by kernel_rfl) ?_ ?_
         · rfl
         simp only [Act.put, List.setIfInBounds_toArray, List.set_cons_zero, List.set_cons_succ])
    first
      | (refine h_run (i := 13) (v := ?_) hHeld rfl (by kernel_rfl) (by kernel_rfl) (by kernel_rfl) ?_ ?_ ?_
         rotate_left
         · rfl
         · (intro x hSx; (try dsimp only at hSx); go_simp <;> with_reducible rfl)
         simp only [Act.put, List.setIfInBounds_toArray, List.set_cons_zero, List.set_cons_succ])
      | (refine h_skip (i := 13) hHeld rfl (by kernel_rfl) (by kernel_rfl) (by kernel_rfl) ?_ ?_
         · rfl
         simp only [Act.put, List.setIfInBounds_toArray, List.set_cons_zero, List.set_cons_succ])
    first
      | (refine h_run (i := 14) (v := ?_) hHeld rfl (by kernel_rfl) (by kernel_rfl) (by kernel_rfl) ?_ ?_ ?_
         rotate_left
         · rfl
         · (intro x hSx; (try dsimp only at hSx); go_simp <;> with_reducible rfl)
         simp only [Act.put, List.setIfInBounds_toArray, List.set_cons_zero, List.set_cons_succ])
      | (refine h_skip (i := 14) hHeld rfl (by kernel_rfl) (by kernel_rfl) (by kernel_rfl) ?_ ?_
         · rfl
         simp only [Act.put, List.setIfInBounds_toArray, List.set_cons_zero, List.set_cons_succ])
    first
      | (refine h_run (i := 15) (v := ?_) hHeld rfl (by kernel_rfl) (by kernel_rfl) (by kernel_rfl) ?_ ?_ ?_
         rotate_left
         · rfl
         · (intro x hSx; (try dsimp only at hSx); go_simp <;> with_reducible rfl)
         simp only [Act.put, List.setIfInBounds_toArray, List.set_cons_zero, List.set_cons_succ])
      | (refine h_skip (i := 15) hHeld rfl (by kernel_rfl) (by kernel_rfl) (by kernel_rfl) ?_ ?_
         · rfl
         simp only [Act.put, List.setIfInBounds_toArray, List.set_cons_zero, List.set_cons_succ])
    clear hHeld
    have hB5 := Lib.hid (hD.out.alloc hD.out.size (.cells #[] 5))
    refine h_value (i := 10) (v := .slice (some ⟨W.drew.heap.size, 0, none⟩) 0 0) (w' := W.drew.alloc (.cells #[] 5)) (fun y : World => y.cell? ⟨w.heap.size, 0, none⟩ = some (.int .u32 no) ∧ y.cell? ⟨w.heap.size, 1, none⟩ = some (.int .u32 fi) ∧ y.cell? ⟨w.heap.size, 2, none⟩ = some (.int .i64 (K : Nat)) ∧ y.cell? ⟨w.heap.size, 3, none⟩ = some (.int .i64 (m : Nat)) ∧ y.cell? ⟨w.heap.size, 4, none⟩ = some (.slice (some ⟨sb, so, none⟩) L cap) ∧ y.cell? ⟨sb, so + i, none⟩ = some (.slice (some ⟨rg, 0, none⟩) 2 rc)) (fun _ h => h) rfl (by kernel_rfl) rfl ?_ (hS.out _ hB5.out) ?_
    · go_simp <;> with_reducible rfl
    simp only [Act.put, List.setIfInBounds_toArray, List.set_cons_zero, List.set_cons_succ]
    have hown : OwnZ (W.drew.alloc (.cells #[] 5)) W.drew.heap.size 5 .u8 (.slice (some ⟨W.drew.heap.size, 0, none⟩) 0 0) 0 (fun _ => 0) := World.ownsRow_lit (base := W.drew.heap.size) (e := 5) (size := 1) W.drew #[] 0 (Nat.le_refl _) (by unfold maxLen; omega) rfl
    have hsl : ZAt (W.drew.alloc (.cells #[] 5)) .u8 (some ⟨rg, 0, none⟩) 2 (fun j => (f j : Nat)) := (hrh.out.below hB5.out (by have := hBh.out.size; omega)).by
    obtain ⟨v', w6, hrn, ho6, hg6, hf6⟩ := run_catZ (P := Try.prog) (S := 71) (T := 5) Try.underlying71 info8 (by decide) (W.drew.alloc (.cells #[] 5)) _ W.drew.heap.size 0 (fun _ => 0) hown (some ⟨rg, 0, none⟩) rc 2 (fun j => (f j : Nat)) hsl (fun h => by cases h) (by omega) (by show _ ≤ (W.drew.heap.push _).size; rw [Array.size_push]; omega) 71
    have hB6 : Hid (Below W.heap.size W w6) := hide (below_grown hB5.out (Nat.le_refl _) hg6 (fun p hp => by have := (hown.lt p hp).1; have := hD.out.size; omega))
    obtain ⟨g6, c6, rfl, hg61⟩ : ∃ g6 c6, v' = .slice (some ⟨g6, 0, none⟩) 2 c6 ∧ W.drew.heap.size ≤ g6 := by
      rcases ho6.2 with ⟨_, h⟩ | ⟨g6, c6, _, h1, h2, _⟩
      · omega
      · exact ⟨g6, c6, h1, h2⟩
    have hr6 : BRow w6 g6 2 f := FRow.own (show w6.ownsRow W.drew.heap.size 5 1 (.slice (some ⟨g6, 0, none⟩) 2 c6) 2 (rowZ .u8 2 (catZ 0 (fun _ => 0) (fun j => (f j : Nat)))) from ho6) (fun i hi => by rw [rowZ_get _ _ _ _ hi]; simp [catZ])
    have hg6W : W.heap.size ≤ g6 := by have := hD.out.size; omega
    have hr6h := Lib.hid hr6
    refine h_value (i := 16) (v := .slice (some ⟨g6, 0, none⟩) 2 c6) (w' := w6) (fun y : World => y.cell? ⟨w.heap.size, 0, none⟩ = some (.int .u32 no) ∧ y.cell? ⟨w.heap.size, 1, none⟩ = some (.int .u32 fi) ∧ y.cell? ⟨w.heap.size, 2, none⟩ = some (.int .i64 (K : Nat)) ∧ y.cell? ⟨w.heap.size, 3, none⟩ = some (.int .i64 (m : Nat)) ∧ y.cell? ⟨w.heap.size, 4, none⟩ = some (.slice (some ⟨sb, so, none⟩) L cap) ∧ y.cell? ⟨sb, so + i, none⟩ = some (.slice (some ⟨rg, 0, none⟩) 2 rc)) (fun _ h => h) rfl (by kernel_rfl) rfl ?_ (hS.out _ hB6.out) ?_
    · exact exec_appendM (.tmp 31) (.tmp 36) _ _ rfl rfl rfl hrn
    simp only [Act.put, List.setIfInBounds_toArray, List.set_cons_zero, List.set_cons_succ]
    clear hown hsl hrn ho6 hg6 hf6 hr6
    have hHeld := hS.out _ hB6.out
    first
      | (refine h_run (i := 17) (v := ?_) hHeld rfl (by kernel_rfl) (by kernel_rfl) (by kernel_rfl) ?_ ?_ ?_
         rotate_left
         · rfl
         · (intro x hSx; (try dsimp only at hSx); go_simp <;> with_reducible rfl)
         simp only [Act.put, List.setIfInBounds_toArray, List.set_cons_zero, List.set_cons_succ])
      | (refine h_skip (i := 17) hHeld rfl (by kernel_rfl) (by kernel_rfl) (by kernel_rfl) ?_ ?_
         · rfl
         simp only [Act.put, List.setIfInBounds_toArray, List.set_cons_zero, List.set_cons_succ])
    clear hHeld
    have b4r := (hB6.out.block _ (by have := hsh.out; omega)).trans h1h.out
    have b4 := blk_of b4r
    have hsz := hsh.out
    have hBf : Hid (Below w.heap.size w (w6.setRow (w.heap.size + 1) #[.int .i64 kd, .int .u32 0, .int .u32 0, .int .i64 0, .int .u32 0, .int .u32 no, .int .u32 fi, .int .i64 (K : Nat), .int .i64 (m : Nat), .int .i64 (i : Nat), .slice (some ⟨g6, 0, none⟩) 2 c6])) := hide (below_setRow (hBh.out.trans (hB6.out.mono (by omega))) (by omega) _)
    have hrf : Hid (BRow (w6.setRow (w.heap.size + 1) #[.int .i64 kd, .int .u32 0, .int .u32 0, .int .i64 0, .int .u32 0, .int .u32 no, .int .u32 fi, .int .i64 (K : Nat), .int .i64 (m : Nat), .int .i64 (i : Nat), .slice (some ⟨g6, 0, none⟩) 2 c6]) g6 2 f) := hide (hr6h.out.stay (setRow_other _ _ _ _ (by omega)))
    have hSf : (fun y : World => y.cell? ⟨w.heap.size, 0, none⟩ = some (.int .u32 no) ∧ y.cell? ⟨w.heap.size, 1, none⟩ = some (.int .u32 fi) ∧ y.cell? ⟨w.heap.size, 2, none⟩ = some (.int .i64 (K : Nat)) ∧ y.cell? ⟨w.heap.size, 3, none⟩ = some (.int .i64 (m : Nat)) ∧ y.cell? ⟨w.heap.size, 4, none⟩ = some (.slice (some ⟨sb, so, none⟩) L cap) ∧ y.cell? ⟨sb, so + i, none⟩ = some (.slice (some ⟨rg, 0, none⟩) 2 rc)) (w6.setRow (w.heap.size + 1) #[.int .i64 kd, .int .u32 0, .int .u32 0, .int .i64 0, .int .u32 0, .int .u32 no, .int .u32 fi, .int .i64 (K : Nat), .int .i64 (m : Nat), .int .i64 (i : Nat), .slice (some ⟨g6, 0, none⟩) 2 c6]) := by
      obtain ⟨q0, q1, q2, q3, q4, q5⟩ := hS.out _ hB6.out
      have n1 : w.heap.size ≠ w.heap.size + 1 := by omega
      exact ⟨(cell_setRow_ne _ _ _ _ _ n1).trans q0, (cell_setRow_ne _ _ _ _ _ n1).trans q1, (cell_setRow_ne _ _ _ _ _ n1).trans q2, (cell_setRow_ne _ _ _ _ _ n1).trans q3, (cell_setRow_ne _ _ _ _ _ n1).trans q4, (cell_setRow_ne _ _ _ _ _ hsbw).trans q5⟩
    have hSfh := Lib.hid hSf
    refine h_write (i := 18) (w' := w6.setRow (w.heap.size + 1) #[.int .i64 kd, .int .u32 0, .int .u32 0, .int .i64 0, .int .u32 0, .int .u32 no, .int .u32 fi, .int .i64 (K : Nat), .int .i64 (m : Nat), .int .i64 (i : Nat), .slice (some ⟨g6, 0, none⟩) 2 c6]) (fun y : World => y.cell? ⟨w.heap.size, 0, none⟩ = some (.int .u32 no) ∧ y.cell? ⟨w.heap.size, 1, none⟩ = some (.int .u32 fi) ∧ y.cell? ⟨w.heap.size, 2, none⟩ = some (.int .i64 (K : Nat)) ∧ y.cell? ⟨w.heap.size, 3, none⟩ = some (.int .i64 (m : Nat)) ∧ y.cell? ⟨w.heap.size, 4, none⟩ = some (.slice (some ⟨sb, so, none⟩) L cap) ∧ y.cell? ⟨sb, so + i, none⟩ = some (.slice (some ⟨rg, 0, none⟩) 2 rc)) (fun _ h => h) rfl (by kernel_rfl) rfl ?_ hSf ?_
    · go_simp <;> with_reducible rfl
    have hHeld := hSfh.out
    clear hSf
    first
      | (refine h_run (i := 19) (v := ?_) hHeld rfl (by kernel_rfl) (by kernel_rfl) (by kernel_rfl) ?_ ?_ ?_
         rotate_left
         · rfl
         · (intro x hSx; (try dsimp only at hSx); go_simp <;> with_reducible rfl)
         simp only [Act.put, List.setIfInBounds_toArray, List.set_cons_zero, List.set_cons_succ])
      | (refine h_skip (i := 19) hHeld rfl (by kernel_rfl) (by kernel_rfl) (by kernel_rfl) ?_ ?_
         · rfl
         simp only [Act.put, List.setIfInBounds_toArray, List.set_cons_zero, List.set_cons_succ])
    refine h_done (by kernel_rfl) ?_
    clear hHeld b4
    go_wp2_with fail
    refine bodyPost_ret (v := .tuple #[.agg #[.int .i64 kd, .int .u32 0, .int .u32 0, .int .i64 0, .int .u32 0, .int .u32 no, .int .u32 fi, .int .i64 (K : Nat), .int .i64 (m : Nat), .int .i64 (i : Nat), .slice (some ⟨g6, 0, none⟩) 2 c6], .int .i64 0]) (results_row_tmp rfl _ _ (w.heap.size + 1) 73 _ (0, 0) _ _ rfl rfl (setRow_heap _ _ _ _ _ _ b4r) Try.underlying73 rfl dg_info) rfl (hkh.out _ _ _ hg6W hrf.out hBf.out)
end Go.Proofs.Ytmfagdbocidfjaa

/- Whether a shard's datagram may be. Conditions: its numbers. -/
namespace Go.Proofs.Ytmfagdbocidfjaa
open Go.RowKit
/-- a shard's datagram -/
def dgV (no fi : Int) (K m i : Nat) (g c : Nat) : Value := .agg #[.int .i64 (dgK K i), .int .u32 0, .int .u32 0, .int .i64 0, .int .u32 0, .int .u32 no, .int .u32 fi, .int .i64 (K : Nat), .int .i64 (m : Nat), .int .i64 (i : Nat), .slice (some ⟨g, 0, none⟩) 2 c]
def BoolB (b : Bool) (W : World) (e : Ending) (W' : World) : Prop := e = .returned (.bool b) ∧ Below W.heap.size W W'
def CodeB (b : Int) (W : World) (e : Ending) (W' : World) : Prop := e = .returned (.int .i64 b) ∧ Below W.heap.size W W'
attribute [local irreducible] blk wLoad wLoadRes loadAns wStore wStoreRes storeAns Plain
attribute [local go_sem ↓] ld_d0 sto_d0
attribute [local go_sem] ld_d sto_d loadAns_some storeAns_some dg_size dg_plain blk_alloc_if blk_setRow_if blk_drew_at blk_drewN_at rowPut_some blk_setCell_if cellPut_some
set_option maxRecDepth 100000 in
set_option maxHeartbeats 4000000 in
theorem wi_shard (no fi : Int) (K m i g c : Nat) (w : World) (hK1 : 1 ≤ K) (hK : K ≤ 16) (hm : m ≤ 16) (hi : i < K + m) : Calls Try.prog 104 #[dgV no fi K m i g c] w (BoolB true w) := by
  have hend : Hid (BoolB true w (.returned (.bool true)) (w.alloc (.cells #[.int .i64 (dgK K i), .int .u32 0, .int .u32 0, .int .i64 0, .int .u32 0, .int .u32 no, .int .u32 fi, .int .i64 (K : Nat), .int .i64 (m : Nat), .int .i64 (i : Nat), .slice (some ⟨g, 0, none⟩) 2 c] 73))) := hide ⟨rfl, (Below.refl _ _).alloc (Nat.le_refl _) _⟩
  unfold dgV
  have k1 : decide ((K : Int) < 1) = false := decide_eq_false (by omega)
  have k2 : decide ((16 : Int) < (K : Int)) = false := decide_eq_false (by omega)
  have k3 : decide ((m : Int) < 0) = false := decide_eq_false (by omega)
  have k4 : decide ((16 : Int) < (m : Int)) = false := decide_eq_false (by omega)
  have k5 : (0 : Int) ≤ (i : Int) := by omega
  have k6 : IntKind.i64.wrap ((K : Int) + (m : Int)) = (K : Int) + (m : Int) := IntWalk.i64_in _ (by omega)
  have k7 : (i : Int) < (K : Int) + (m : Int) := by omega
  by_cases hk : K ≤ i
  · have hd : dgK K i = 3 := by unfold dgK; rw [if_pos hk]
    rw [hd] at hend ⊢
    have k8 : (K : Int) ≤ (i : Int) := by omega
    clear hd hK1 hK hm hi hk
    go_enter Try.func104, Try.ntmps104
    go_wp2_with fail
    go_ret
    exact hend.out
  · have hd : dgK K i = 2 := by unfold dgK; rw [if_neg hk]
    rw [hd] at hend ⊢
    have k8 : (i : Int) < (K : Int) := by omega
    clear hd hK1 hK hm hi hk
    go_enter Try.func104, Try.ntmps104
    go_wp2_with fail
    go_ret
    exact hend.out
set_option maxRecDepth 100000 in
set_option maxHeartbeats 4000000 in
theorem wi_form (no fi : Int) (K m i g c : Nat) (w : World) (hK1 : 1 ≤ K) (hK : K ≤ 16) (hm : m ≤ 16) (hi : i < K + m) : Calls Try.prog 84 #[dgV no fi K m i g c] w (BoolB true w) := by
  have hsub := Lib.hid (fun W => wi_shard no fi K m i g c W hK1 hK hm hi)
  unfold dgV at *
  have hdk : dgK K i = 2 ∨ dgK K i = 3 := by unfold dgK; split <;> simp
  obtain ⟨kd, hkd⟩ : ∃ kd, dgK K i = kd := ⟨_, rfl⟩
  rw [hkd] at hsub hdk ⊢
  clear hK1 hK hm hi hkd
  rcases hdk with rfl | rfl
  all_goals
    go_enter Try.func84, Try.ntmps84
    go_wp2_with fail
    refine (hsub.out _).mono ?_
    rintro _ w2 ⟨rfl, hB⟩
    have hend : Hid (BoolB true w (.returned (.bool true)) w2) := hide ⟨rfl, ((Below.refl _ _).alloc (Nat.le_refl _) _).trans (hB.mono (((Below.refl w.heap.size w).alloc (Nat.le_refl _) _).size))⟩
    go_wp2_with fail
    go_ret
    exact hend.out
set_option maxRecDepth 100000 in
set_option maxHeartbeats 4000000 in
theorem wi_check (no fi : Int) (K m i g c : Nat) (w : World) (hK1 : 1 ≤ K) (hK : K ≤ 16) (hm : m ≤ 16) (hi : i < K + m) : Calls Try.prog 50 #[dgV no fi K m i g c] w (CodeB 0 w) := by
  have hsub := Lib.hid (fun W => wi_form no fi K m i g c W hK1 hK hm hi)
  unfold dgV at *
  have hdk : dgK K i = 2 ∨ dgK K i = 3 := by unfold dgK; split <;> simp
  obtain ⟨kd, hkd⟩ : ∃ kd, dgK K i = kd := ⟨_, rfl⟩
  rw [hkd] at hsub hdk ⊢
  clear hK1 hK hm hi hkd
  rcases hdk with rfl | rfl
  all_goals
    go_enter Try.func50, Try.ntmps50
    go_wp2_with fail
    refine (hsub.out _).mono ?_
    rintro _ w2 ⟨rfl, hB⟩
    have hend : Hid (CodeB 0 w (.returned (.int .i64 0)) w2) := hide ⟨rfl, ((Below.refl _ _).alloc (Nat.le_refl _) _).trans (hB.mono (((Below.refl w.heap.size w).alloc (Nat.le_refl _) _).size))⟩
    go_wp2_with fail
    go_ret
    exact hend.out
end Go.Proofs.Ytmfagdbocidfjaa

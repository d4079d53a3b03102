import Derived.Test.YtmfagdbocidfjaaV07
/- Matrices of one's own: New, Clone, the first row from one on that isn't 0 in a column (pivot). Conditions: what the blocks hold. -/
namespace Go.Proofs.Ytmfagdbocidfjaa
open Go.RowKit
/-- elements, row by row -/
def flF (C : Nat) (F : Nat → Nat → Nat) (j : Nat) : Nat := F (j / C) (j % C)
set_option maxRecDepth 100000 in
theorem fl_at (C : Nat) (F : Nat → Nat → Nat) (i k : Nat) (hk : k < C) : flF C F (i * C + k) = F i k := by
  unfold flF
  have h1 : (i * C + k) / C = i := by rw [Nat.mul_comm, Nat.mul_add_div (by omega), Nat.div_eq_of_lt hk, Nat.add_zero]
  have h2 : (i * C + k) % C = k := by rw [Nat.add_comm, Nat.add_mul_mod_self_right, Nat.mod_eq_of_lt hk]
  rw [h1, h2]
set_option maxRecDepth 100000 in
theorem fl_ext {R C : Nat} {f g : Nat → Nat} (h : ∀ i k, i < R → k < C → f (i * C + k) = g (i * C + k)) (j : Nat) (hj : j < R * C) : f j = g j := by
  have hC : 0 < C := by
    rcases Nat.eq_zero_or_pos C with h0 | h0
    · subst h0; rw [Nat.mul_zero] at hj; omega
    · exact h0
  have e : j / C * C + j % C = j := by rw [Nat.mul_comm]; exact Nat.div_add_mod j C
  have := h (j / C) (j % C) ((Nat.div_lt_iff_lt_mul hC).2 hj) (Nat.mod_lt _ hC)
  rw [e] at this
  exact this
/-- block g holds a matrix of one's own -/
def MRow (w : World) (g R C : Nat) (F : Nat → Nat → Nat) : Prop := BRow w g (R * C) (flF C F)
set_option maxRecDepth 100000 in
theorem MRow.mat {w : World} {g R C : Nat} {F : Nat → Nat → Nat} (h : MRow w g R C F) : MAt w (some ⟨g, 0, none⟩) R C F := fun i k hi hk => ⟨g, 0, rfl, by
  rw [Nat.zero_add, ← fl_at C F i k hk]
  exact FRow.cell h _ (idx_lt hi hk)⟩
set_option maxRecDepth 100000 in
theorem MRow.cell {w : World} {g R C : Nat} {F : Nat → Nat → Nat} (h : MRow w g R C F) (i k : Nat) (hi : i < R) (hk : k < C) : w.cell? ⟨g, i * C + k, none⟩ = some (.int .u8 (F i k : Nat)) := by
  rw [← fl_at C F i k hk]
  exact FRow.cell h _ (idx_lt hi hk)
set_option maxRecDepth 100000 in
theorem MRow.fr {w : World} {g R C : Nat} {F : Nat → Nat → Nat} (h : MRow w g R C F) (off : Nat) : w.frozen? ⟨g, off, none⟩ = false := FRow.fr h off
set_option maxRecDepth 100000 in
theorem MRow.of {w : World} {g R C : Nat} {f : Nat → Nat} {F : Nat → Nat → Nat} (h : BRow w g (R * C) f) (e : ∀ i k, i < R → k < C → f (i * C + k) = F i k) : MRow w g R C F :=
  h.congr (fl_ext fun i k hi hk => by rw [e i k hi hk, fl_at C F i k hk])
set_option maxRecDepth 100000 in
theorem MRow.congr {w : World} {g R C : Nat} {F F' : Nat → Nat → Nat} (h : MRow w g R C F) (e : ∀ i k, i < R → k < C → F i k = F' i k) : MRow w g R C F' :=
  MRow.of h fun i k hi hk => by rw [fl_at C F i k hk, e i k hi hk]
set_option maxRecDepth 100000 in
theorem MRow.lt {w : World} {g R C : Nat} {F : Nat → Nat → Nat} (h : MRow w g R C F) : g < w.heap.size := BRow.lt h
set_option maxRecDepth 100000 in
theorem MRow.below {B : Nat} {w w' : World} {g R C : Nat} {F : Nat → Nat → Nat} (h : MRow w g R C F) (hb : Below B w w') (hg : g < B) : MRow w' g R C F := BRow.below h hb hg
set_option maxRecDepth 100000 in
theorem MRow.drewN {w : World} {g R C : Nat} {F : Nat → Nat → Nat} (h : MRow w g R C F) (n : Nat) : MRow (w.drewN n) g R C F := h
set_option maxRecDepth 100000 in
theorem MRow.stay {w w' : World} {g R C : Nat} {F : Nat → Nat → Nat} (h : MRow w g R C F) (e : w'.heap[g]? = w.heap[g]?) : MRow w' g R C F := by
  obtain ⟨D, h1, h2, h3⟩ := h
  exact ⟨D, e.trans h1, h2, h3⟩
/-- one element is another one -/
def stF (F : Nat → Nat → Nat) (i k x i' k' : Nat) : Nat := if i' = i ∧ k' = k then x else F i' k'
set_option maxRecDepth 100000 in
theorem MRow.set {w : World} {g R C : Nat} {F : Nat → Nat → Nat} (h : MRow w g R C F) (i k x : Nat) (hk : k < C) : MRow (w.setCell ⟨g, i * C + k, none⟩ (.int .u8 (x : Nat))) g R C (stF F i k x) :=
  MRow.of (BRow.set h (i * C + k) x) fun i' k' hi' hk' => by
    unfold stF
    by_cases e : i' = i ∧ k' = k
    · rw [if_pos e, if_pos (by rw [e.1, e.2])]
    · rw [if_neg e, if_neg (fun e2 => e (idx_inj hk' hk e2)), fl_at C F i' k' hk']
def NewMPost (W : World) (R C : Nat) (F : Nat → Nat → Nat) (e : Ending) (W' : World) : Prop :=
  ∃ g, e = .returned (.tuple #[.agg #[.int .i64 (R : Nat), .int .i64 (C : Nat), .slice (some ⟨g, 0, none⟩) (R * C) (R * C)], .int .i64 0]) ∧ W.heap.size ≤ g ∧ MRow W' g R C F ∧ Below W.heap.size W W'
def NoMPost (W : World) (code : Int) (e : Ending) (W' : World) : Prop := e = .returned (.tuple #[.agg #[.int .i64 0, .int .i64 0, .slice none 0 0], .int .i64 code]) ∧ Below W.heap.size W W'
attribute [local irreducible] gexp gtbl glog rmul rinv rpow zexp mixF blk wLoad wLoadRes loadAns wStore wStoreRes storeAns Plain flF BRow
attribute [local go_sem ↓] ld_m0 sto_m0
attribute [local go_sem] ld_m sto_m loadAns_some storeAns_some mx_size mx_plain blk_alloc_if blk_setRow_if blk_drew_at blk_drewN_at rowPut_some
set_option maxRecDepth 100000 in
set_option maxHeartbeats 1000000 in
theorem m_new (R C : Nat) (w : World) (hR : R ≤ 255) (hC : C ≤ 255) :
    Calls Try.prog 115 #[.int .i64 (R : Nat), .int .i64 (C : Nat)] w (NewMPost w R C (fun _ _ => 0)) := by
  have h2 := rc_le hR hC
  have hn1 : ((R : Int) * (C : Int)) = ((R * C : Nat) : Int) := by simp
  have e3 : IntKind.i64.wrap ((R : Int) * (C : Int)) = ((R * C : Nat) : Int) := by rw [hn1]; exact IntWalk.i64_in _ (by omega)
  have e1 : wrap64 ((R : Int) * (C : Int)) = ((R * C : Nat) : Int) := by rw [hn1]; exact IntWalk.wrap64_in _ (by omega)
  have hmk : ∀ x : World, (Instr.makeSlice 71 (.int .i64 ((R * C : Nat) : Int)) (.int .i64 ((R * C : Nat) : Int))).run Try.prog x = .ok (.slice (some ⟨x.heap.size, 0, none⟩) (R * C) (R * C)) (x.alloc (.cells (madeCells #[.int .u8 0] (R * C)) 5)) := fun x => make_row (P := Try.prog) Try.underlying71 info8 (R * C) (by omega) (by decide) x
  have hz := zeroM
  have hfin : ∀ (A B : Obj) (D : Array Value), Below w.heap.size w (((w.alloc A).alloc B).setRow w.heap.size D) := fun A B D => below_setRow (((Below.refl _ _).alloc (Nat.le_refl _) _).alloc (by show _ ≤ (w.heap.push _).size; rw [Array.size_push]; omega) _) (Nat.le_refl _) _
  have hfinh := Lib.hid hfin
  have hrow : Hid (∀ (A : Obj) (D : Array Value), MRow (((w.alloc A).alloc (.cells (madeCells #[.int .u8 0] (R * C)) 5)).setRow w.heap.size D) (w.heap.size + 1) R C (fun _ _ => 0)) := hide (fun A D => by
    have h := brow_made (w.alloc A) (R * C)
    have hs : (w.alloc A).heap.size = w.heap.size + 1 := by show (w.heap.push _).size = _; rw [Array.size_push]
    rw [hs] at h
    refine MRow.stay (MRow.of h (fun _ _ _ _ => rfl)) (setRow_other _ _ _ _ (by omega)))
  obtain ⟨L, hLe⟩ : ∃ L, R * C = L := ⟨_, rfl⟩
  have hL := Lib.hid hLe
  rw [hLe] at e1 e3 hmk hrow
  clear hn1 hfin hLe h2
  go_enter Try.func115, Try.ntmps115
  go_wp2_with fail
  refine bodyPost_ret (v := .tuple #[.agg #[.int .i64 (R : Nat), .int .i64 (C : Nat), .slice (some ⟨w.heap.size + 1, 0, none⟩) L L], .int .i64 0]) (results_row_tmp rfl _ _ w.heap.size 188 _ (0, 0) _ _ rfl rfl (setRow_heap _ _ _ _ _ _ (blk_alloc (last_block0 w _ _ rfl) _)) Try.underlying188 rfl mx_info) rfl ?hpost
  case hpost => exact ⟨w.heap.size + 1, by rw [hL.out], by omega, hrow.out _ _, hfinh.out _ _ _⟩
set_option maxRecDepth 100000 in
set_option maxHeartbeats 1000000 in
theorem m_new_no (r c : Int) (w : World) (h : r < 0 ∨ c < 0 ∨ 255 < r ∨ 255 < c) :
    Calls Try.prog 115 #[.int .i64 r, .int .i64 c] w (NoMPost w 50) := by
  have hz := zeroM
  have hfin : ∀ (A : Obj) (D : Array Value), Below w.heap.size w ((w.alloc A).setRow w.heap.size D) := fun A D => below_setRow ((Below.refl _ _).alloc (Nat.le_refl _) _) (Nat.le_refl _) _
  have hfinh := Lib.hid hfin
  clear hfin
  by_cases h0 : r < 0
  · have d0 : decide (r < 0) = true := decide_eq_true h0
    clear h h0
    go_enter Try.func115, Try.ntmps115
    go_wp2_with fail
    refine bodyPost_ret (v := .tuple #[.agg #[.int .i64 0, .int .i64 0, .slice none 0 0], .int .i64 50]) (results_row_tmp rfl _ _ w.heap.size 188 _ (0, 0) _ _ rfl rfl (setRow_heap _ _ _ _ _ _ (last_block0 w _ _ rfl)) Try.underlying188 rfl mx_info) rfl ⟨rfl, hfinh.out _ _⟩
  have d0 : decide (r < 0) = false := decide_eq_false h0
  by_cases h1 : c < 0
  · have d1 : decide (c < 0) = true := decide_eq_true h1
    clear h h0 h1
    go_enter Try.func115, Try.ntmps115
    go_wp2_with fail
    refine bodyPost_ret (v := .tuple #[.agg #[.int .i64 0, .int .i64 0, .slice none 0 0], .int .i64 50]) (results_row_tmp rfl _ _ w.heap.size 188 _ (0, 0) _ _ rfl rfl (setRow_heap _ _ _ _ _ _ (last_block0 w _ _ rfl)) Try.underlying188 rfl mx_info) rfl ⟨rfl, hfinh.out _ _⟩
  have d1 : decide (c < 0) = false := decide_eq_false h1
  by_cases h2 : 255 < r
  · have d2 : decide (255 < r) = true := decide_eq_true h2
    clear h h0 h1 h2
    go_enter Try.func115, Try.ntmps115
    go_wp2_with fail
    refine bodyPost_ret (v := .tuple #[.agg #[.int .i64 0, .int .i64 0, .slice none 0 0], .int .i64 50]) (results_row_tmp rfl _ _ w.heap.size 188 _ (0, 0) _ _ rfl rfl (setRow_heap _ _ _ _ _ _ (last_block0 w _ _ rfl)) Try.underlying188 rfl mx_info) rfl ⟨rfl, hfinh.out _ _⟩
  have d2 : decide (255 < r) = false := decide_eq_false h2
  have d3 : decide (255 < c) = true := decide_eq_true (by omega)
  clear h h0 h1 h2
  go_enter Try.func115, Try.ntmps115
  go_wp2_with fail
  refine bodyPost_ret (v := .tuple #[.agg #[.int .i64 0, .int .i64 0, .slice none 0 0], .int .i64 50]) (results_row_tmp rfl _ _ w.heap.size 188 _ (0, 0) _ _ rfl rfl (setRow_heap _ _ _ _ _ _ (last_block0 w _ _ rfl)) Try.underlying188 rfl mx_info) rfl ⟨rfl, hfinh.out _ _⟩
set_option maxRecDepth 100000 in
theorem MAt.by {w : World} {a : Option Addr} {R C : Nat} {F : Nat → Nat → Nat} (h : MAt w a R C F) : By w a (R * C) (flF C F) := by
  intro j hj
  have hC : 0 < C := by
    rcases Nat.eq_zero_or_pos C with h0 | h0
    · subst h0; rw [Nat.mul_zero] at hj; omega
    · exact h0
  have e : j / C * C + j % C = j := by rw [Nat.mul_comm]; exact Nat.div_add_mod j C
  obtain ⟨b, off, hs, hc⟩ := h (j / C) (j % C) ((Nat.div_lt_iff_lt_mul hC).2 hj) (Nat.mod_lt _ hC)
  rw [e] at hc
  have e2 : flF C F j = F (j / C) (j % C) := by unfold flF; rfl
  exact ⟨b, off, hs, by rw [e2]; exact hc⟩
set_option maxRecDepth 100000 in
theorem two_allocs (w : World) (A B : Obj) : ((w.alloc A).alloc B).heap[w.heap.size]? = some A ∧ ((w.alloc A).alloc B).heap[w.heap.size + 1]? = some B ∧ ((w.alloc A).alloc B).heap.size = w.heap.size + 2 ∧ Below w.heap.size w ((w.alloc A).alloc B) := by
  have s1 : ∀ (u : World) (o : Obj), (u.alloc o).heap.size = u.heap.size + 1 := fun u o => by show (u.heap.push _).size = _; rw [Array.size_push]
  exact ⟨blk_alloc (last_block0 _ _ _ rfl) _, last_block0 _ _ _ (s1 _ _).symm, by rw [s1, s1], ((Below.refl _ _).alloc (Nat.le_refl _) _).alloc (by rw [s1]; omega) _⟩
set_option maxRecDepth 100000 in
theorem BRow.stay {w w' : World} {g : Nat} {n : Nat} {D : Nat → Nat} (h : BRow w g n D) (e : w'.heap[g]? = w.heap[g]?) : BRow w' g n D := by
  unfold BRow at *
  exact FRow.keep h e
def MRowLike (g n : Nat) (f : Nat → Nat) (w : World) : Prop := BRow w g n f
def CloPost (W : World) (r c : Int) (n : Nat) (f : Nat → Nat) (e : Ending) (W' : World) : Prop :=
  ∃ g cap, e = .returned (.agg #[.int .i64 r, .int .i64 c, .slice (some ⟨g, 0, none⟩) n cap]) ∧ W.heap.size ≤ g ∧ n ≤ cap ∧ cap ≤ maxLen ∧ BRow W' g n f ∧ Below W.heap.size W W'
attribute [local go_sem] blk_setCell_if cellPut_some
set_option maxRecDepth 100000 in
set_option maxHeartbeats 2000000 in
theorem m_clone (r c : Int) (a : Option Addr) (n cap : Nat) (f : Nat → Nat) (w : World) (ha : By w a n f) (hnil : a = none → n = 0 ∧ cap = 0) (hn : n ≤ 100000000) :
    Calls Try.prog 119 #[.agg #[.int .i64 r, .int .i64 c, .slice a n cap]] w (CloPost w r c n f) := by
  have hz := zeroM
  obtain ⟨h0, h1, hsz, hB⟩ := two_allocs w (.cells #[.int .i64 r, .int .i64 c, .slice a n cap] 188) (.cells #[.int .i64 0, .int .i64 0, .slice none 0 0] 188)
  have hah := Lib.hid ha
  have hnilh := Lib.hid hnil
  clear ha hnil
  go_enter Try.func119, Try.ntmps119
  go_upto_region 1 with (fail)
  generalize World.alloc (World.alloc w _) _ = W at *
  have ha2 := Lib.hid (hah.out.below hB)
  have c2 : W.cell? ⟨w.heap.size, 2, none⟩ = some (.slice a n cap) := (cell_of_block h0).trans rfl
  have c2' : (W.alloc (.cells #[] 5)).cell? ⟨w.heap.size, 2, none⟩ = some (.slice a n cap) := (cell_of_block (blk_alloc h0 _)).trans rfl
  have h0h := Lib.hid h0
  have h1h := Lib.hid h1
  have hBh := Lib.hid hB
  have hszh := Lib.hid hsz
  clear h0 h1 hB hsz
  have hlt : w.heap.size < W.heap.size := by have := hszh.out; omega
  go_upto_region 2 with (at_builtin; refine wpList_appB rfl (.tmp 3) (.tmp 5) rfl W rfl rfl a cap n f rfl ha2.out hnilh.out hn ?_; intro g c2 w4 q1 q2 q3 q4 q5; have h04 := (q5.block w.heap.size hlt).trans h0h.out; have h04h := Lib.hid h04; have c4 : w4.cell? ⟨w.heap.size, 2, none⟩ = some (.slice a n cap) := (cell_of_block h04).trans rfl; have f4 : w4.frozen? ⟨w.heap.size, 2, none⟩ = false := frozen_of_row w4 w.heap.size 2 _ _ h04; have q4h := Lib.hid q4; have q5h := Lib.hid q5; clear h04 q4 q5)
  have b0 := blk_of h04h.out
  have b1 : blk w4 (w.heap.size + 1) = _ := blk_of ((q5h.out.block (w.heap.size + 1) (by have := hszh.out; omega)).trans h1h.out)
  have hne : ¬ w.heap.size + 1 = w.heap.size := by omega
  have hgne : g ≠ w.heap.size + 1 ∧ g ≠ w.heap.size := by have := hszh.out; omega
  have hg0 := Nat.le_trans hBh.out.size q1
  have hfin : Hid (∀ v D, MRowLike g n f ((w4.setCell ⟨w.heap.size, 2, none⟩ v).setRow (w.heap.size + 1) D) ∧ Below w.heap.size w ((w4.setCell ⟨w.heap.size, 2, none⟩ v).setRow (w.heap.size + 1) D)) := hide (fun v D =>
    ⟨BRow.stay (BRow.stay q4h.out (heap_setCell_other _ _ _ _ hgne.2)) (setRow_other _ _ _ _ hgne.1), below_setRow ((hBh.out.trans (q5h.out.mono hBh.out.size)).setCell (Nat.le_refl _) v) (by omega) D⟩)
  have b1h := Lib.hid (blk_heap b1)
  clear hgne hlt
  go_wp2_with fail
  refine bodyPost_ret (v := .agg #[.int .i64 r, .int .i64 c, .slice (some ⟨g, 0, none⟩) n c2]) (results_cell_row rfl _ _ (w.heap.size + 1) 188 _ (0, 0) _ rfl (setRow_heap _ _ _ _ _ _ ((heap_setCell_other _ _ _ _ hne).trans b1h.out)) Try.underlying188 rfl mx_info) rfl ⟨g, c2, rfl, hg0, q2, q3, (hfin.out _ _).1, (hfin.out _ _).2⟩
set_option maxRecDepth 100000 in
theorem bne_nat1' (x : Nat) (h : x ≠ 0) : (((x : Nat) : Int) != 0) = true := by simp [bne]; omega
set_option maxRecDepth 100000 in
/-- a box that is filled as soon as it is there -/
theorem boxed (w : World) (A D : Array Value) (T : TypeId) : ((w.alloc (.cells A T)).setRow w.heap.size D).heap[w.heap.size]? = some (.cells D T (0, 0)) ∧ ((w.alloc (.cells A T)).setRow w.heap.size D).heap.size = w.heap.size + 1 ∧ Below w.heap.size w ((w.alloc (.cells A T)).setRow w.heap.size D) :=
  ⟨setRow_heap _ _ _ _ _ _ (last_block0 w _ _ rfl), by rw [size_setRow]; show (w.heap.push _).size = _; rw [Array.size_push], below_setRow ((Below.refl _ _).alloc (Nat.le_refl _) _) (Nat.le_refl _) _⟩
set_option maxRecDepth 100000 in
/-- what a walk is told of the place of an element -/
theorem idx_walk (i n k N : Nat) (h : i * n + k < N) (hN : N ≤ 100000) : IntKind.i64.wrap ((i : Int) * (n : Int)) = ((i * n : Nat) : Int) ∧ wrap64 ((i : Int) * (n : Int)) = ((i * n : Nat) : Int) ∧ ((i * n : Nat) : Int) + (k : Int) < (N : Int) ∧ IntKind.i64.wrap (((i * n : Nat) : Int) + (k : Int)) = ((i * n : Nat) : Int) + (k : Int) ∧ (((i * n : Nat) : Int) + (k : Int)).toNat = i * n + k := by
  have hn1 : ((i : Int) * (n : Int)) = ((i * n : Nat) : Int) := by simp
  rw [hn1]
  generalize i * n = q at *
  exact ⟨IntWalk.i64_in _ (by omega), IntWalk.wrap64_in _ (by omega), by omega, IntWalk.i64_in _ (by omega), by omega⟩
/-! ### pivot -/
set_option maxRecDepth 100000 in
set_option maxHeartbeats 2000000 in
theorem m_pivot_yes (R C col fr k : Nat) (F : Nat → Nat → Nat) (a : Option Addr) (cap : Nat) (w : World) (ha : MAt w a R C F) (hcol : col < C) (hR : R ≤ 255) (hC : C ≤ 255) (hc : R * C ≤ cap) (hfk : fr ≤ k) (hk : k < R) (hz : ∀ j, fr ≤ j → j < k → F j col = 0) (hnz : F k col ≠ 0) :
    Calls Try.prog 121 #[.agg #[.int .i64 (R : Nat), .int .i64 (C : Nat), .slice a (R * C) cap], .int .i64 (fr : Nat), .int .i64 (col : Nat)] w (Ret w (.int .i64 (k : Nat))) := by
  have hs := ha.some (by omega)
  have hzh := Lib.hid hz
  have h2 := rc_le hR hC
  have kr := Lib.hid (fun j W (hj : j < R) => m_row R C j a cap W hs hj hR hC hc)
  have hB := below_one w (.cells #[.int .i64 (R : Nat), .int .i64 (C : Nat), .slice a (R * C) cap] 188)
  have h0 := last_block0 w (.cells #[.int .i64 (R : Nat), .int .i64 (C : Nat), .slice a (R * C) cap] 188) _ rfl
  have hsz : w.heap.size < (w.alloc (.cells #[.int .i64 (R : Nat), .int .i64 (C : Nat), .slice a (R * C) cap] 188)).heap.size := by show _ < (w.heap.push _).size; rw [Array.size_push]; omega
  have hah := Lib.hid ha
  clear ha hs hz
  go_enter Try.func121, Try.ntmps121
  go_upto_region 1 with (fail)
  generalize World.alloc w _ = W at *
  have ha2 := Lib.hid (hah.out.below hB)
  have h0h := Lib.hid h0
  have hBh := Lib.hid hB
  clear h0 hB
  go_upto_region 2 with (fail)
  go_loopw [7] (fun iv wr => ∃ j : Nat, fr ≤ j ∧ j ≤ k ∧ iv = .int .i64 (j : Nat) ∧ Hid (Below W.heap.size W wr)) (fun iv _ => k - (intOf iv).toNat)
  case atStart => exact ⟨fr, Nat.le_refl _, hfk, rfl, hide (Below.refl _ _)⟩
  case round =>
    obtain ⟨j, hj1, hj2, rfl, hBr⟩ := hrel
    have b0r := (hBr.out.block _ hsz).trans h0h.out
    have b0 := blk_of b0r
    have c0 : wr.cell? ⟨w.heap.size, 0, none⟩ = some (.int .i64 (R : Nat)) := (cell_of_block b0r).trans rfl
    have i1 : (j : Int) < (R : Int) := by omega
    have kr1 := Lib.hid (kr.out j wr (by omega))
    clear b0r
    go_wp2_with fail
    refine kr1.out.mono ?_
    rintro e w2 ⟨rfl, hb2⟩
    have hBr2 := Lib.hid (below_step hBr.out hBr.out.size hb2)
    obtain ⟨bb, oo, hse, cx⟩ := ((ha2.out.below hBr2.out).row j (by omega)) col hcol
    rw [hse]
    clear hb2 hse
    by_cases hjk : j < k
    · rw [hzh.out j hj1 hjk] at cx
      go_wp2_with fail
      go_roundw
      case rel => exact ⟨j + 1, by omega, by omega, by go_num, hBr2⟩
      case measure => simp [intOf]; omega
    · obtain rfl : j = k := by omega
      have t1 : (((F j col : Nat) : Int) != 0) = true := bne_nat1' _ hnz
      generalize F j col = x at *
      go_wp2_with fail
      go_ret
      exact ⟨rfl, hBh.out.trans (hBr2.out.mono hBh.out.size)⟩
set_option maxRecDepth 100000 in
set_option maxHeartbeats 2000000 in
theorem m_pivot_no (R C col fr : Nat) (F : Nat → Nat → Nat) (a : Option Addr) (cap : Nat) (w : World) (ha : MAt w a R C F) (hcol : col < C) (hR : R ≤ 255) (hC : C ≤ 255) (hc : R * C ≤ cap) (hf : fr ≤ R) (hz : ∀ j, fr ≤ j → j < R → F j col = 0) :
    Calls Try.prog 121 #[.agg #[.int .i64 (R : Nat), .int .i64 (C : Nat), .slice a (R * C) cap], .int .i64 (fr : Nat), .int .i64 (col : Nat)] w (Ret w (.int .i64 (-1))) := by
  have hs : ∀ j, j < R → C = 0 ∨ ∃ b off, a = some ⟨b, off, none⟩ := fun j hj => ha.some (by omega)
  have hzh := Lib.hid hz
  have h2 := rc_le hR hC
  have kr := Lib.hid (fun j W (hj : j < R) => m_row R C j a cap W (hs j hj) hj hR hC hc)
  have hB := below_one w (.cells #[.int .i64 (R : Nat), .int .i64 (C : Nat), .slice a (R * C) cap] 188)
  have h0 := last_block0 w (.cells #[.int .i64 (R : Nat), .int .i64 (C : Nat), .slice a (R * C) cap] 188) _ rfl
  have hsz : w.heap.size < (w.alloc (.cells #[.int .i64 (R : Nat), .int .i64 (C : Nat), .slice a (R * C) cap] 188)).heap.size := by show _ < (w.heap.push _).size; rw [Array.size_push]; omega
  have hah := Lib.hid ha
  clear ha hs hz
  go_enter Try.func121, Try.ntmps121
  go_upto_region 1 with (fail)
  generalize World.alloc w _ = W at *
  have ha2 := Lib.hid (hah.out.below hB)
  have h0h := Lib.hid h0
  have hBh := Lib.hid hB
  clear h0 hB
  go_upto_region 2 with (fail)
  go_loopw [7] (fun iv wr => ∃ j : Nat, fr ≤ j ∧ j ≤ R ∧ iv = .int .i64 (j : Nat) ∧ Hid (Below W.heap.size W wr)) (fun iv _ => R - (intOf iv).toNat)
  case atStart => exact ⟨fr, Nat.le_refl _, hf, rfl, hide (Below.refl _ _)⟩
  case round =>
    obtain ⟨j, hj1, hj2, rfl, hBr⟩ := hrel
    have b0r := (hBr.out.block _ hsz).trans h0h.out
    have b0 := blk_of b0r
    have c0 : wr.cell? ⟨w.heap.size, 0, none⟩ = some (.int .i64 (R : Nat)) := (cell_of_block b0r).trans rfl
    clear b0r
    by_cases hjk : j < R
    · have i1 : (j : Int) < (R : Int) := by omega
      have kr1 := Lib.hid (kr.out j wr (by omega))
      go_wp2_with fail
      refine kr1.out.mono ?_
      rintro e w2 ⟨rfl, hb2⟩
      have hBr2 := Lib.hid (below_step hBr.out hBr.out.size hb2)
      obtain ⟨bb, oo, hse, cx⟩ := ((ha2.out.below hBr2.out).row j (by omega)) col hcol
      rw [hse]
      rw [hzh.out j hj1 hjk] at cx
      clear hb2 hse
      go_wp2_with fail
      go_roundw
      case rel => exact ⟨j + 1, by omega, by omega, by go_num, hBr2⟩
      case measure => simp [intOf]; omega
    · obtain rfl : j = R := by omega
      have i1 : decide ((j : Int) < (j : Int)) = false := by simp
      go_wp2_with fail
      go_ret
      exact ⟨rfl, hBh.out.trans (hBr.out.mono hBh.out.size)⟩
end Go.Proofs.Ytmfagdbocidfjaa

/- Matrices of one's own: Identity. -/
namespace Go.Proofs.Ytmfagdbocidfjaa
open Go.RowKit
attribute [local irreducible] gexp gtbl glog rmul rinv rpow zexp mixF blk wLoad wLoadRes loadAns wStore wStoreRes storeAns Plain flF BRow
attribute [local go_sem ↓] ld_m0 sto_m0
attribute [local go_sem] ld_m sto_m loadAns_some storeAns_some mx_size mx_plain blk_alloc_if blk_setRow_if blk_drew_at blk_drewN_at rowPut_some blk_setCell_if cellPut_some
/-! ### Identity -/
def idF (i k : Nat) : Nat := if i = k then 1 else 0
def idK (j i k : Nat) : Nat := if i = k ∧ i < j then 1 else 0
set_option maxRecDepth 100000 in
theorem idK_next (j i k : Nat) : stF (idK j) j j 1 i k = idK (j + 1) i k := by
  unfold stF idK
  by_cases h : i = j ∧ k = j
  · rw [if_pos h, if_pos (by omega)]
  · rw [if_neg h]
    by_cases h2 : i = k ∧ i < j
    · rw [if_pos h2, if_pos (by omega)]
    · rw [if_neg h2, if_neg (by omega)]
set_option maxRecDepth 100000 in
set_option maxHeartbeats 2000000 in
theorem m_identity (n : Nat) (w : World) (hn : n ≤ 255) :
    Calls Try.prog 120 #[.int .i64 (n : Nat)] w (NewMPost w n n idF) := by
  have hz := zeroM
  have kn := Lib.hid (fun W => m_new n n W hn hn)
  have hB := below_one w (.cells #[.int .i64 0, .int .i64 0, .slice none 0 0] 188)
  have h0 := last_block0 w (.cells #[.int .i64 0, .int .i64 0, .slice none 0 0] 188) _ rfl
  have hsz : w.heap.size < (w.alloc (.cells #[.int .i64 0, .int .i64 0, .slice none 0 0] 188)).heap.size := by show _ < (w.heap.push _).size; rw [Array.size_push]; omega
  have hrc := rc_le hn hn
  have hidx := Lib.hid (fun i (h : i < n) => idx_lt h h)
  go_enter Try.func120, Try.ntmps120
  go_upto_region 1 with (fail)
  generalize World.alloc w _ = W at *
  have h0h := Lib.hid h0
  have hBh := Lib.hid hB
  clear h0 hB
  go_wp2_with fail
  refine (kn.out W).mono ?_
  rintro e w2 ⟨g, rfl, hg, hm, hb2⟩
  have hmh := Lib.hid hm
  have hb2h := Lib.hid hb2
  have hgl := hm.lt
  have hWl := hb2.size
  clear hm hb2
  obtain ⟨N, hNe⟩ : ∃ N, n * n = N := ⟨_, rfl⟩
  have hN := Lib.hid hNe
  rw [hNe] at hrc
  have hrc2 : N ≤ 100000 := Nat.le_trans hrc (by decide)
  clear hrc
  have hidx2 : Hid (∀ i, i < n → i * n + i < N) := hide (fun i h => by rw [← hNe]; exact hidx.out i h)
  rw [hNe]
  clear hNe hidx
  go_upto_region 5 with (fail)
  obtain ⟨x0, x1, x2⟩ := boxed w2 #[.int .i64 0, .int .i64 0, .slice none 0 0] #[.int .i64 (n : Nat), .int .i64 (n : Nat), .slice (some ⟨g, 0, none⟩) N N] 188
  generalize World.setRow (World.alloc w2 _) _ _ = X at *
  have hmX : Hid (MRow X g n n (idK 0)) := hide (((hmh.out.below x2 hgl)).congr (fun i k _ _ => by unfold idK; rw [if_neg (by omega)]))
  have hx0 := Lib.hid x0
  have hx2 := Lib.hid x2
  have hx1 : w2.heap.size < X.heap.size := by omega
  clear x0 x1 x2
  go_loopw [18] (fun iv wr => ∃ j : Nat, j ≤ n ∧ iv = .int .i64 (j : Nat) ∧ Hid (MRow wr g n n (idK j)) ∧ Hid (X.grownBy wr (some g))) (fun iv _ => n - (intOf iv).toNat)
  case atStart => exact ⟨0, Nat.zero_le _, rfl, hmX, hide (only_refl _ _)⟩
  case round =>
    obtain ⟨j, hj, rfl, hM, hG⟩ := hrel
    have b0r := (hG.out.block w2.heap.size (by omega) (by intro e; injection e with e; omega)).trans hx0.out
    have b0 := blk_of b0r
    by_cases hjn : j < n
    · have i1 : (j : Int) < (n : Int) := by omega
      have c2 : wr.cell? ⟨w2.heap.size, 2, none⟩ = some (.slice (some ⟨g, 0, none⟩) N N) := (cell_of_block b0r).trans rfl
      have hq := hidx2.out j hjn
      have cx := hM.out.cell j j hjn hjn
      have fx := hM.out.fr (j * n + j)
      have hset := (hM.out.set j j 1 hjn).congr (fun i k _ _ => idK_next j i k)
      rw [show ((1 : Nat) : Int) = 1 from rfl] at hset
      have hset2 := Lib.hid hset
      have hG2 := Lib.hid (only_set hG.out (j * n + j) (.int .u8 1))
      have e3 := (idx_walk j n j N hq hrc2).1
      have l1 := (idx_walk j n j N hq hrc2).2.2.1
      have e6 := (idx_walk j n j N hq hrc2).2.2.2.2
      have e5 := (idx_walk j n j N hq hrc2).2.2.2.1
      generalize idK j j j = ox at *
      generalize j * n = q at *
      clear b0r hset
      go_wp2_with fail
      go_roundw
      case rel => exact ⟨j + 1, by omega, by go_num, hset2, hG2⟩
      case measure => simp [intOf]; omega
    · obtain rfl : j = n := by omega
      have hMf := Lib.hid (hM.out.congr (fun i k hi _ => show idK j i k = idF i k by
        unfold idK idF
        by_cases e : i = k
        · rw [if_pos ⟨e, hi⟩, if_pos e]
        · rw [if_neg (fun h => e h.1), if_neg e]))
      have hr0 : wr.heap[w.heap.size]? = _ := ((hG.out.block w.heap.size (by omega) (by intro e; injection e with e; omega)).trans (hx2.out.block w.heap.size (by omega))).trans ((hb2h.out.block w.heap.size hsz).trans h0h.out)
      have hr0b := blk_of hr0
      have hB9 : Below w.heap.size w wr := below_grown (hBh.out.trans ((hb2h.out.mono hBh.out.size).trans (hx2.out.mono (by omega)))) (Nat.le_refl _) hG.out (fun p hp => by cases hp; omega)
      have hB9h := Lib.hid hB9
      have hr0h := Lib.hid hr0
      have i1 : decide ((j : Int) < (j : Int)) = false := by simp
      clear b0r hr0 hB9
      go_wp2_with fail
      refine bodyPost_ret (v := .tuple #[.agg #[.int .i64 (j : Nat), .int .i64 (j : Nat), .slice (some ⟨g, 0, none⟩) N N], .int .i64 0]) (results_row_tmp rfl _ _ w.heap.size 188 _ (0, 0) _ _ rfl rfl (setRow_heap _ _ _ _ _ _ hr0h.out) Try.underlying188 rfl mx_info) rfl ?hpost
      case hpost => exact ⟨g, by rw [hN.out], by omega, hMf.out.stay (setRow_other _ _ _ _ (by omega)), below_setRow hB9h.out (Nat.le_refl _) _⟩
set_option maxRecDepth 100000 in
set_option maxHeartbeats 2000000 in
theorem m_identity_no (n : Int) (w : World) (hn : n < 0 ∨ 255 < n) :
    Calls Try.prog 120 #[.int .i64 n] w (NoMPost w 50) := by
  have hz := zeroM
  have kn := Lib.hid (fun W => m_new_no n n W (by omega))
  have hB := below_one w (.cells #[.int .i64 0, .int .i64 0, .slice none 0 0] 188)
  have h0 := last_block0 w (.cells #[.int .i64 0, .int .i64 0, .slice none 0 0] 188) _ rfl
  have hsz : w.heap.size < (w.alloc (.cells #[.int .i64 0, .int .i64 0, .slice none 0 0] 188)).heap.size := by show _ < (w.heap.push _).size; rw [Array.size_push]; omega
  clear hn
  go_enter Try.func120, Try.ntmps120
  go_upto_region 1 with (fail)
  generalize World.alloc w _ = W at *
  have h0h := Lib.hid h0
  have hBh := Lib.hid hB
  clear h0 hB
  go_wp2_with fail
  refine (kn.out W).mono ?_
  rintro e w2 ⟨rfl, hb2⟩
  have hb2h := Lib.hid hb2
  have hWl := hb2.size
  clear hb2
  go_upto_region 2 with (fail)
  obtain ⟨x0, x1, x2⟩ := boxed w2 #[.int .i64 0, .int .i64 0, .slice none 0 0] #[.int .i64 0, .int .i64 0, .slice none 0 0] 188
  generalize World.setRow (World.alloc w2 _) _ _ = X at *
  have hr0 : X.heap[w.heap.size]? = _ := (x2.block w.heap.size (by omega)).trans ((hb2h.out.block w.heap.size hsz).trans h0h.out)
  have hr0b := blk_of hr0
  have b0 := blk_of x0
  have hB9 : Below w.heap.size w X := hBh.out.trans ((hb2h.out.mono hBh.out.size).trans (x2.mono (by omega)))
  have hB9h := Lib.hid hB9
  have hr0h := Lib.hid hr0
  have hx1 : w2.heap.size < X.heap.size := by omega
  clear hr0 hB9 x0 x1 x2
  go_wp2_with fail
  refine bodyPost_ret (v := .tuple #[.agg #[.int .i64 0, .int .i64 0, .slice none 0 0], .int .i64 50]) (results_row_tmp rfl _ _ w.heap.size 188 _ (0, 0) _ _ rfl rfl (setRow_heap _ _ _ _ _ _ hr0h.out) Try.underlying188 rfl mx_info) rfl ?hpost
  case hpost => exact ⟨rfl, below_setRow hB9h.out (Nat.le_refl _) _⟩
end Go.Proofs.Ytmfagdbocidfjaa

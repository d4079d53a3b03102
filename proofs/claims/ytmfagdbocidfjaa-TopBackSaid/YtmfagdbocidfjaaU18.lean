import Derived.Test.YtmfagdbocidfjaaU17
import Derived.Test.YtmfagdbocidfjaaU03
/- A state's bytes, and their sum. Conditions: none but the state's form. -/
namespace Go.Proofs.Ytmfagdbocidfjaa
open Go.RowKit
set_option maxRecDepth 100000 in
theorem wpList_val {P : Program} {ops : Array Oper} {rest : List Oper} {o : Oper} {a : Act} {w w' : World} {Q : Exit → Act → World → Prop} {v : Value} (hgd : o.guard = none)
    (he : (execOp a.eval o).run P w = .ok (.value v) w') (h : wpList P ops Q rest (a.put o.dst v) w') : wpList P ops Q (o :: rest) a w :=
  wpList_plain hgd fun _ hK => by
    unfold Oper.wp
    rw [he]
    exact hK _ _ h
set_option maxRecDepth 100000 in
theorem exec_index {P : Program} {o : Oper} {a : Act} {w : World} {x i r : Value} (p q : Operand) (t : TypeId) (ho : o.op = .index t p q) (hp : a.eval p = x) (hq : a.eval q = i) (hr : (Instr.index t x i).run P w = .ok r w) :
    (execOp a.eval o).run P w = .ok (.value r) w := by
  unfold execOp
  simp only [ho, hp, hq, Sem.run_bind, Sem.run_pure, Result.andThen_ok, hr]
/-- n of a state's cells, from o on -/
def rowA (S : Nat → Int) (o n : Nat) : Array Value := ((List.range n).map fun j => cvS (o + j) (S (o + j))).toArray
def bodyA (S : Nat → Int) (i : Nat) : Array Value := #[.int .i64 (S (2 + i * 7)), .int .i64 (S (2 + i * 7 + 1)), .int .i64 (S (2 + i * 7 + 2)), .int .i64 (S (2 + i * 7 + 3)), .int .i64 (S (2 + i * 7 + 4)), .int .i64 (S (2 + i * 7 + 5)), .int .i64 (S (2 + i * 7 + 6))]
def shotA (S : Nat → Int) (k : Nat) : Array Value := #[.bool (decide (S (16 + k * 6) ≠ 0)), .int .i64 (S (16 + k * 6 + 1)), .int .i64 (S (16 + k * 6 + 2)), .int .i64 (S (16 + k * 6 + 3)), .int .i64 (S (16 + k * 6 + 4)), .int .i64 (S (16 + k * 6 + 5))]
set_option maxRecDepth 100000 in
theorem bodies_info : (Try.prog.info? 43).map (·.size) = some 14 := by kernel_rfl
set_option maxRecDepth 100000 in
theorem shots_info : (Try.prog.info? 46).map (·.size) = some 48 := by kernel_rfl
set_option maxRecDepth 100000 in
theorem StAt.loadBodies {w : World} {g : Nat} {S : Nat → Int} (h : StAt w g S) : (Instr.loadAt 43 (.pointer (some ⟨g, 2, none⟩))).run Try.prog w = .ok (.agg (rowA S 2 14)) w :=
  run_loadAt_mid w g 2 _ _ _ (h.range (o := 2) (n := 14) (by omega)) Try.underlying43 rfl (by rw [List.length_map, List.length_range]; exact bodies_info)
set_option maxRecDepth 100000 in
theorem StAt.loadShots {w : World} {g : Nat} {S : Nat → Int} (h : StAt w g S) : (Instr.loadAt 46 (.pointer (some ⟨g, 16, none⟩))).run Try.prog w = .ok (.agg (rowA S 16 48)) w :=
  run_loadAt_mid w g 16 _ _ _ (h.range (o := 16) (n := 48) (by omega)) Try.underlying46 rfl (by rw [List.length_map, List.length_range]; exact shots_info)
set_option maxRecDepth 100000 in
theorem index_body (S : Nat → Int) (i : Nat) (hi : i < 2) (w : World) : (Instr.index 43 (.agg (rowA S 2 14)) (.int .i64 (i : Nat))).run Try.prog w = .ok (.agg (bodyA S i)) w := by
  rcases (show i = 0 ∨ i = 1 by omega) with rfl | rfl <;> kernel_rfl
set_option maxRecDepth 100000 in
theorem index_shot (S : Nat → Int) (k : Nat) (hk : k < 8) (w : World) : (Instr.index 46 (.agg (rowA S 16 48)) (.int .i64 (k : Nat))).run Try.prog w = .ok (.agg (shotA S k)) w := by
  rcases (show k = 0 ∨ k = 1 ∨ k = 2 ∨ k = 3 ∨ k = 4 ∨ k = 5 ∨ k = 6 ∨ k = 7 by omega) with rfl | rfl | rfl | rfl | rfl | rfl | rfl | rfl <;> kernel_rfl
/-- n bytes, whatever they are -/
def RowN (W : World) (lo : Nat) (v : Value) (n : Nat) : Prop := ∃ l : List Int, l.length = n ∧ VAt W lo 5 1 v n (bytesOf l)
def RowPost (W : World) (n : Nat) (e : Ending) (W' : World) : Prop := ∃ s cap, e = .returned (.slice s n cap) ∧ RowN W' W.heap.size (.slice s n cap) n ∧ Below W.heap.size W W'
set_option maxRecDepth 100000 in
theorem RowN.nil (W : World) (lo : Nat) : RowN W lo (.slice none 0 0) 0 := ⟨[], rfl, VAt.nil _ _ _ _⟩
set_option maxRecDepth 100000 in
theorem RowN.below {W W' : World} {lo n : Nat} {v : Value} (h : RowN W lo v n) (hb : Below W.heap.size W W') : RowN W' lo v n := by
  obtain ⟨l, hl, h⟩ := h
  exact ⟨l, hl, h.below hb⟩
set_option maxRecDepth 100000 in
theorem RowN.base {W : World} {lo lo' n : Nat} {v : Value} (h : RowN W lo v n) (hl : lo' ≤ lo) : RowN W lo' v n := by
  obtain ⟨l, hl', h⟩ := h
  exact ⟨l, hl', h.base hl⟩
set_option maxRecDepth 100000 in
theorem RowN.blk {W : World} {lo n : Nat} {v : Value} (h : RowN W lo v n) : ∀ b, v.ownBlock = some b → lo ≤ b ∧ ∃ C, W.heap[b]? = some (.cells C 5 (0, 0)) := by
  obtain ⟨l, _, h⟩ := h
  exact h.lt
set_option maxRecDepth 100000 in
theorem RowN.cell {W : World} {lo n k cap : Nat} {s : Option Addr} (h : RowN W lo (.slice s k cap) n) {j : Nat} (hj : j < n) : ∃ b off x, s = some ⟨b, off, none⟩ ∧ W.cell? ⟨b, off + j, none⟩ = some (.int .u8 x) := by
  obtain ⟨l, hl, h⟩ := h
  have hx : (bytesOf l)[j]? = some (.int .u8 (l[j]'(by omega))) := by unfold bytesOf; rw [List.getElem?_map, List.getElem?_eq_getElem (by omega)]; rfl
  have h3 := h.2.2
  rcases h3 with ⟨_, h3⟩ | ⟨b, off, cap', C, hv, h3⟩
  · omega
  · have hc := h.cells hv j _ hx
    injection hv with hv
    exact ⟨b, off, _, hv, hc⟩
set_option maxRecDepth 100000 in
theorem RowN.other {W W' : World} {lo n : Nat} {v : Value} (h : RowN W lo v n) (hg : W.grownBy W' v.ownBlock) {b : Nat} {C : Array Value} {T : TypeId} (hb : W.heap[b]? = some (.cells C T (0, 0))) (hT : T ≠ 5) : W'.heap[b]? = some (.cells C T (0, 0)) :=
  (hg.block b (Array.getElem?_eq_some_iff.1 hb).1 (fun e => by
    obtain ⟨_, D, hD⟩ := h.blk b e.symm
    rw [hD] at hb
    injection hb with hb
    injection hb with _ hb
    exact hT hb.symm)).trans hb
set_option maxRecDepth 100000 in
theorem PutRow.post {w : World} {l m : List Int} {e : Ending} {w' : World} (h : PutRow w l.length (bytesOf l) m e w') : RowPost w (l.length + m.length) e w' := by
  obtain ⟨v', rfl, hv, hB⟩ := h
  rw [← bytesOf_app] at hv
  obtain ⟨s, cap, rfl, _⟩ := hv.form
  exact ⟨s, cap, rfl, ⟨l ++ m, by simp, hv⟩, hB⟩
set_option maxRecDepth 100000 in
theorem n_put64 {v : Value} {n lo : Nat} {w : World} (h : RowN w lo v n) (hn : n ≤ 90000) (x : Int) : Calls Try.prog 112 #[v, .int .u64 x] w (RowPost w (n + 8)) := by
  obtain ⟨l, rfl, h⟩ := h
  exact (v_put64 v l.length (bytesOf l) x lo w h hn).mono fun e w' hp => hp.post
set_option maxRecDepth 100000 in
theorem n_put32 {v : Value} {n lo : Nat} {w : World} (h : RowN w lo v n) (hn : n ≤ 90000) (x : Int) : Calls Try.prog 52 #[v, .int .u32 x] w (RowPost w (n + 4)) := by
  obtain ⟨l, rfl, h⟩ := h
  exact (v_put32 v l.length (bytesOf l) x lo w h (by omega)).mono fun e w' hp => hp.post
set_option maxRecDepth 100000 in
/-- append(out, x) -/
theorem n_one {W : World} {lo n : Nat} {v : Value} (h : RowN W lo v n) (hlo : lo ≤ W.heap.size) (hl : n ≤ 100000) (x : Int) (ty : TypeId) :
    ∃ s cap W', (Builtin.append_ #[71, 71] ty #[v, .slice (some ⟨W.heap.size, 0, none⟩) 1 1]).run Try.prog (W.alloc (.cells #[.int .u8 x] 5)) = .ok (.slice s (n + 1) cap) W' ∧ RowN W' lo (.slice s (n + 1) cap) (n + 1) ∧ W.grownBy W' v.ownBlock := by
  obtain ⟨l, rfl, h⟩ := h
  have hB : Below W.heap.size W (W.alloc (.cells #[.int .u8 x] 5)) := (Below.refl _ _).alloc (Nat.le_refl _) _
  have hsz : (W.alloc (.cells #[.int .u8 x] 5)).heap.size = W.heap.size + 1 := by show (W.heap.push _).size = _; rw [Array.size_push]
  have hblk := last0 W (.cells #[.int .u8 x] 5) _ rfl
  obtain ⟨v', W', hr, hv, hg, _, _⟩ := v_app (P := Try.prog) (S := 71) (T := 5) Try.underlying71 info_u8 rfl (by decide) (by decide) (h.below hB) (by omega) ⟨W.heap.size, 0, none⟩ 1 1 (bytesOf [x]) rfl (fun j u hj => by
    have : (W.alloc (.cells #[.int .u8 x] 5)).cell? ⟨W.heap.size, j, none⟩ = some u := by rw [cell_of_block hblk]; simpa [bytesOf] using hj
    rw [Addr.add_mid, Nat.zero_add]
    exact this) (bytesOf_one _) (by omega) ty
  rw [← bytesOf_app] at hv
  obtain ⟨s, cap, rfl, _⟩ := hv.form
  exact ⟨s, cap, W', hr, ⟨l ++ [x], by simp, hv⟩, only_trans (only_of_below hB _) hg⟩
set_option maxRecDepth 100000 in
theorem body_cells {W : World} {b : Nat} {S : Nat → Int} {i : Nat} {T : TypeId} (h : W.heap[b]? = some (.cells (bodyA S i) T (0, 0))) : ∀ j, j < 7 → W.cell? ⟨b, j, none⟩ = some (.int .i64 (S (2 + i * 7 + j))) := fun j hj => by
  rcases (show j = 0 ∨ j = 1 ∨ j = 2 ∨ j = 3 ∨ j = 4 ∨ j = 5 ∨ j = 6 by omega) with rfl | rfl | rfl | rfl | rfl | rfl | rfl <;> exact (cell_of_block h).trans rfl
def wIndex (ty : TypeId) (x i : Value) : Sem Value := Instr.index ty x i
set_option maxRecDepth 100000 in
theorem ld_bs0 (v : Value) : Instr.loadAt 43 v = wLoad 43 v := rfl
set_option maxRecDepth 100000 in
theorem ld_ss0 (v : Value) : Instr.loadAt 46 v = wLoad 46 v := rfl
set_option maxRecDepth 100000 in
theorem ix_bs0 (x i : Value) : Instr.index 43 x i = wIndex 43 x i := rfl
set_option maxRecDepth 100000 in
theorem ix_ss0 (x i : Value) : Instr.index 46 x i = wIndex 46 x i := rfl
set_option maxRecDepth 100000 in
theorem StAt.wBodies {w : World} {g : Nat} {S : Nat → Int} (h : StAt w g S) : (wLoad 43 (.pointer (some ⟨g, 2, none⟩))).run Try.prog w = .ok (.agg (rowA S 2 14)) w := h.loadBodies
set_option maxRecDepth 100000 in
theorem StAt.wShots {w : World} {g : Nat} {S : Nat → Int} (h : StAt w g S) : (wLoad 46 (.pointer (some ⟨g, 16, none⟩))).run Try.prog w = .ok (.agg (rowA S 16 48)) w := h.loadShots
set_option maxRecDepth 100000 in
theorem wIndex_body (S : Nat → Int) {i : Nat} (hi : i < 2) (w : World) : (wIndex 43 (.agg (rowA S 2 14)) (.int .i64 (i : Nat))).run Try.prog w = .ok (.agg (bodyA S i)) w := index_body S i hi w
set_option maxRecDepth 100000 in
theorem wIndex_shot (S : Nat → Int) {k : Nat} (hk : k < 8) (w : World) : (wIndex 46 (.agg (rowA S 16 48)) (.int .i64 (k : Nat))).run Try.prog w = .ok (.agg (shotA S k)) w := index_shot S k hk w
set_option maxRecDepth 100000 in
theorem sto_bd0 (p x : Value) : Instr.storeAt 42 p x = wStore 42 p x := rfl
set_option maxRecDepth 100000 in
theorem sto_bd (w : World) (b : Nat) (C : Array Value) : (wStore 42 (.pointer (some ⟨b, 0, none⟩)) (.agg C)).run Try.prog w = storeAns 7 w b C (blk w b) (wStoreRes Try.prog 42 b C w) := run_wStore body_info w b C
set_option maxRecDepth 100000 in
theorem bd_size (S : Nat → Int) (i : Nat) : (bodyA S i).size = 7 := by unfold bodyA; rfl
set_option maxRecDepth 100000 in
theorem bd_plain (S : Nat → Int) (i : Nat) : Plain (bodyA S i) := by unfold Plain bodyA; simp [Value.oneCell']
set_option maxRecDepth 100000 in
theorem sto_sh0 (p x : Value) : Instr.storeAt 45 p x = wStore 45 p x := rfl
set_option maxRecDepth 100000 in
theorem sto_sh (w : World) (b : Nat) (C : Array Value) : (wStore 45 (.pointer (some ⟨b, 0, none⟩)) (.agg C)).run Try.prog w = storeAns 6 w b C (blk w b) (wStoreRes Try.prog 45 b C w) := run_wStore shot_info w b C
set_option maxRecDepth 100000 in
theorem sh_size (S : Nat → Int) (i : Nat) : (shotA S i).size = 6 := by unfold shotA; rfl
set_option maxRecDepth 100000 in
theorem sh_plain (S : Nat → Int) (i : Nat) : Plain (shotA S i) := by unfold Plain shotA; simp [Value.oneCell']
set_option maxRecDepth 100000 in
theorem shot_cells {W : World} {b : Nat} {S : Nat → Int} {k : Nat} {T : TypeId} (h : W.heap[b]? = some (.cells (shotA S k) T (0, 0))) : W.cell? ⟨b, 0, none⟩ = some (.bool (decide (S (16 + k * 6) ≠ 0))) ∧ ∀ j, 0 < j → j < 6 → W.cell? ⟨b, j, none⟩ = some (.int .i64 (S (16 + k * 6 + j))) := by
  refine ⟨(cell_of_block h).trans rfl, fun j h0 hj => ?_⟩
  rcases (show j = 1 ∨ j = 2 ∨ j = 3 ∨ j = 4 ∨ j = 5 by omega) with rfl | rfl | rfl | rfl | rfl <;> exact (cell_of_block h).trans rfl
set_option maxRecDepth 100000 in
theorem box_row (X : World) (A C : Array Value) (T : TypeId) : ((X.alloc (.cells A T)).setRow X.heap.size C).heap[X.heap.size]? = some (.cells C T (0, 0)) ∧ Below X.heap.size X ((X.alloc (.cells A T)).setRow X.heap.size C) :=
  ⟨setRow_heap _ _ _ _ _ _ (last0 X _ _ rfl), below_setRow ((Below.refl _ _).alloc (Nat.le_refl _) _) (Nat.le_refl _) _⟩
set_option maxRecDepth 100000 in
theorem seven_cells {W : World} {b : Nat} {a c d e f g h : Int} {T : TypeId} (hb : W.heap[b]? = some (.cells #[.int .i64 a, .int .i64 c, .int .i64 d, .int .i64 e, .int .i64 f, .int .i64 g, .int .i64 h] T (0, 0))) : ∀ j, j < 7 → ∃ x, W.cell? ⟨b, j, none⟩ = some (.int .i64 x) := fun j hj => by
  rcases (show j = 0 ∨ j = 1 ∨ j = 2 ∨ j = 3 ∨ j = 4 ∨ j = 5 ∨ j = 6 by omega) with rfl | rfl | rfl | rfl | rfl | rfl | rfl <;> exact ⟨_, (cell_of_block hb).trans rfl⟩
set_option maxRecDepth 100000 in
theorem five_cells {W : World} {b : Nat} {a c d e f : Int} {T : TypeId} (hb : W.heap[b]? = some (.cells #[.int .i64 a, .int .i64 c, .int .i64 d, .int .i64 e, .int .i64 f] T (0, 0))) : ∀ j, j < 5 → ∃ x, W.cell? ⟨b, j, none⟩ = some (.int .i64 x) := fun j hj => by
  rcases (show j = 0 ∨ j = 1 ∨ j = 2 ∨ j = 3 ∨ j = 4 by omega) with rfl | rfl | rfl | rfl | rfl <;> exact ⟨_, (cell_of_block hb).trans rfl⟩
attribute [local irreducible] stA rowA bodyA shotA be8 be4 RowN blk wStore wStoreRes storeAns Plain wLoad wIndex
attribute [local go_sem ↓] sto_bd0 sto_sh0 ld_bs0 ld_ss0 ix_bs0 ix_ss0
attribute [local go_sem] sto_bd sto_sh storeAns_some bd_size bd_plain sh_size sh_plain blk_alloc_if blk_setRow_if blk_drew_at blk_drewN_at rowPut_some
set_option maxRecDepth 100000 in
set_option maxHeartbeats 8000000 in
theorem g_bytes (S : Nat → Int) (w : World) : Calls Try.prog 90 #[.agg (stA S)] w fun e w' => ∃ s n cap, e = .returned (.slice s n cap) ∧ RowN w' w.heap.size (.slice s n cap) n ∧ n ≤ 1000 ∧ Below w.heap.size w w' := by
  have hs : Hid (StAt (w.alloc (.cells (stA S) 49)) w.heap.size S) := hide (last0 _ _ _ rfl)
  have hB : Hid (Below w.heap.size w (w.alloc (.cells (stA S) 49))) := hide ((Below.refl _ _).alloc (Nat.le_refl _) _)
  go_enter Try.func90, Try.ntmps90
  go_upto_region 1 with (fail)
  generalize World.alloc w _ = W0 at *
  obtain ⟨g, hg⟩ : ∃ g, w.heap.size = g := ⟨_, rfl⟩
  rw [hg] at hs hB ⊢
  have hgh := Lib.hid hg
  clear hg
  have hHeld : (fun y : World => StAt y g S) W0.drew := hs.out
  have p1 := Lib.hid (n_put64 (RowN.nil W0.drew 0) (by omega) (IntKind.u64.wrap (S 0)))
  have hcell := Lib.hid (fun (y : World) (hy : StAt y g S) => hy.int (o := 0) (by omega) rfl)
  have hseed := Lib.hid (fun (y : World) (hy : StAt y g S) => hy.seed)
  refine h_begin 8 (fun y : World => StAt y g S) rfl (by kernel_rfl) hHeld ?_
  refine h_run (i := 0) (v := .pointer (some ⟨g, 0, none⟩)) hHeld rfl (by kernel_rfl) (by kernel_rfl) (by kernel_rfl) rfl (fun y hy => by go_simp <;> with_reducible rfl) ?_
  simp only [Act.put, List.setIfInBounds_toArray, List.set_cons_zero, List.set_cons_succ]
  refine h_run (i := 1) (v := .int .i64 (S 0)) hHeld rfl (by kernel_rfl) (by kernel_rfl) (by kernel_rfl) rfl (fun y hy => by have := hcell.out y hy; go_simp <;> with_reducible rfl) ?_
  simp only [Act.put, List.setIfInBounds_toArray, List.set_cons_zero, List.set_cons_succ]
  first
    | (refine h_run (i := 2) (v := ?_) hHeld rfl (by kernel_rfl) (by kernel_rfl) (by kernel_rfl) ?_ ?_ ?_
       rotate_left
       · rfl
       · (intro x hSx; (try dsimp only at hSx); go_simp <;> with_reducible rfl)
       simp only [Act.put, List.setIfInBounds_toArray, List.set_cons_zero, List.set_cons_succ])
    | (refine h_skip (i := 2) hHeld rfl (by kernel_rfl) (by kernel_rfl) (by kernel_rfl) ?_ ?_
       · rfl
       simp only [Act.put, List.setIfInBounds_toArray, List.set_cons_zero, List.set_cons_succ])
  refine h_run (i := 4) (v := .pointer (some ⟨g, 1, none⟩)) hHeld rfl (by kernel_rfl) (by kernel_rfl) (by kernel_rfl) rfl (fun y hy => by go_simp <;> with_reducible rfl) ?_
  simp only [Act.put, List.setIfInBounds_toArray, List.set_cons_zero, List.set_cons_succ]
  refine h_run (i := 5) (v := .int .u32 (S 1)) hHeld rfl (by kernel_rfl) (by kernel_rfl) (by kernel_rfl) rfl (fun y hy => by have := hseed.out y hy; go_simp <;> with_reducible rfl) ?_
  simp only [Act.put, List.setIfInBounds_toArray, List.set_cons_zero, List.set_cons_succ]
  refine h_call (i := 3) (fun y : World => StAt y g S) (fun _ h => h) p1.out rfl (by kernel_rfl) rfl ?_ ?_
  · go_simp <;> with_reducible rfl
  rintro _ W1 h1
  obtain ⟨s1, c1, rfl, hv1, hB1⟩ := h1
  have hs1 : Hid (StAt W1 g S) := hide ((hB1.block g hHeld.lt).trans hHeld)
  have hB1h : Hid (Below g w W1) := hide ((below_drewN hB.out 1).trans (hB1.mono (by show g ≤ W0.heap.size; have := hB.out.size; have := hgh.out; omega)))
  have hlt1 : Hid (g + 1 ≤ W0.drew.heap.size) := hide hHeld.lt
  clear hHeld p1
  have p2 := Lib.hid (n_put32 hv1 (by omega) (S 1))
  have hHeld : (fun y : World => StAt y g S) W1 := hs1.out
  refine ⟨_, rfl, hHeld, ?_⟩
  simp only [Act.put, List.setIfInBounds_toArray, List.set_cons_zero, List.set_cons_succ]
  refine h_call (i := 6) (fun y : World => StAt y g S) (fun _ h => h) p2.out rfl (by kernel_rfl) rfl ?_ ?_
  · go_simp <;> with_reducible rfl
  rintro _ W2 h2
  obtain ⟨s2, c2, rfl, hv2, hB2⟩ := h2
  have hs2 : Hid (StAt W2 g S) := hide ((hB2.block g hHeld.lt).trans hHeld)
  have hB2h : Hid (Below g w W2) := hide (hB1h.out.trans (hB2.mono (by have := hB1h.out.size; have := hgh.out; omega)))
  have hrow : Hid (RowN W2 (g + 1) (.slice s2 (0 + 8 + 4) c2) (0 + 8 + 4)) := hide (hv2.base (Nat.le_trans hlt1.out hB1.size))
  clear hHeld p2 hv2 hv1
  have hHeld : (fun y : World => StAt y g S) W2 := hs2.out
  refine ⟨_, rfl, hHeld, ?_⟩
  simp only [Act.put, List.setIfInBounds_toArray, List.set_cons_zero, List.set_cons_succ]
  first
    | (refine h_run (i := 7) (v := ?_) hHeld rfl (by kernel_rfl) (by kernel_rfl) (by kernel_rfl) ?_ ?_ ?_
       rotate_left
       · rfl
       · (intro x hSx; (try dsimp only at hSx); go_simp <;> with_reducible rfl)
       simp only [Act.put, List.setIfInBounds_toArray, List.set_cons_zero, List.set_cons_succ])
    | (refine h_skip (i := 7) hHeld rfl (by kernel_rfl) (by kernel_rfl) (by kernel_rfl) ?_ ?_
       · rfl
       simp only [Act.put, List.setIfInBounds_toArray, List.set_cons_zero, List.set_cons_succ])
  refine h_done (by kernel_rfl) ?_
  clear hHeld hB1 hB2 hs hB hs1 hB1h hcell hseed hlt1
  have hl2 := hs2.out.wBodies
  have h12 : (0 : Nat) + 8 + 4 = 12 := rfl
  rw [h12] at hrow ⊢
  clear h12
  go_upto_region 3 with (fail)
  clear hl2
  go_loopw [3, 22] (fun v3 v22 wr => ∃ (i n : Nat) (s : Option Addr) (cap : Nat), i ≤ 2 ∧ v22 = .int .i64 (i : Nat) ∧ v3 = .slice s n cap ∧ Hid (n = 12 + 56 * i) ∧ Hid (RowN wr (g + 1) (.slice s n cap) n) ∧ Hid (StAt wr g S) ∧ Hid (Below g w wr)) (fun _ v22 _ => 2 - (intOf v22).toNat)
  case atStart => exact ⟨0, 12, s2, c2, by omega, rfl, rfl, hide rfl, hrow, hs2, hB2h⟩
  case round =>
    clear hrow hs2 hB2h
    obtain ⟨i, n, s, cap, hi2, rfl, rfl, hn, hrow, hs, hB⟩ := hrel
    by_cases hi : i < 2
    · have i1 : (i : Int) < 2 := by omega
      have hix := wIndex_body S hi
      go_upto_region 5 with (fail)
      clear hix
      obtain ⟨hbx, hBx⟩ := box_row wr #[.int .i64 0, .int .i64 0, .int .i64 0, .int .i64 0, .int .i64 0, .int .i64 0, .int .i64 0] (bodyA S i) 42
      have hs1 : Hid (StAt _ g S) := hide (hs.out.keep (hBx.block g hs.out.lt))
      have hB1 := Lib.hid (hB.out.trans (hBx.mono (Nat.le_trans (Nat.le_of_lt hs.out.lt) (Nat.le_refl _))))
      have hr1 := Lib.hid (hrow.out.below hBx)
      obtain ⟨bx, hbxe⟩ : ∃ b, wr.heap.size = b := ⟨_, rfl⟩
      generalize World.setRow (World.alloc wr _) _ _ = W1 at *
      rw [hbxe] at hbx ⊢
      have q := body_cells hbx
      have q0 := q 0 (by decide)
      have q1 := q 1 (by decide)
      have q2 := q 2 (by decide)
      have q3 := q 3 (by decide)
      have q4 := q 4 (by decide)
      have q5 := q 5 (by decide)
      have q6 := q 6 (by decide)
      clear q hbx hBx hbxe hs hB hrow
      have hlt1 := Lib.hid hs1.out.lt
      go_upto_region 6 with (fail)
      clear q0 q1 q2 q3 q4 q5 q6
      have hBy : Hid (Below W1.heap.size W1 (W1.alloc (.cells #[.int .i64 (S (2 + i * 7)), .int .i64 (S (2 + i * 7 + 1)), .int .i64 (S (2 + i * 7 + 2)), .int .i64 (S (2 + i * 7 + 3)), .int .i64 (S (2 + i * 7 + 4)), .int .i64 (S (2 + i * 7 + 5)), .int .i64 (S (2 + i * 7 + 6))] 2))) := hide ((Below.refl _ _).alloc (Nat.le_refl _) _)
      have hq7 := Lib.hid (seven_cells (last0 W1 (.cells #[.int .i64 (S (2 + i * 7)), .int .i64 (S (2 + i * 7 + 1)), .int .i64 (S (2 + i * 7 + 2)), .int .i64 (S (2 + i * 7 + 3)), .int .i64 (S (2 + i * 7 + 4)), .int .i64 (S (2 + i * 7 + 5)), .int .i64 (S (2 + i * 7 + 6))] 2) _ rfl))
      have hs2 : Hid (StAt _ g S) := hide (hs1.out.keep (hBy.out.block g hs1.out.lt))
      have hB2 := Lib.hid (hB1.out.trans (hBy.out.mono (Nat.le_of_lt hlt1.out)))
      have hr2 := Lib.hid (hr1.out.below hBy.out)
      obtain ⟨gs, hgs⟩ : ∃ b, W1.heap.size = b := ⟨_, rfl⟩
      have hW2l := Lib.hid hs2.out.lt
      generalize World.alloc W1 _ = W2 at *
      rw [hgs] at hq7 ⊢
      clear hgs hs1 hB1 hr1 hBy hlt1
      go_loopw [3, 41] (fun v3 v41 wr => ∃ (j m : Nat) (s : Option Addr) (cap : Nat), j ≤ 7 ∧ v41 = .int .i64 (j : Nat) ∧ v3 = .slice s m cap ∧ Hid (m = n + 8 * j) ∧ Hid (RowN wr (g + 1) (.slice s m cap) m) ∧ Hid (Below W2.heap.size W2 wr)) (fun _ v41 _ => 7 - (intOf v41).toNat)
      case atStart => exact ⟨0, n, s, cap, by omega, rfl, rfl, hide (by omega), hr2, hide (Below.refl _ _)⟩
      case round =>
        clear hr2
        obtain ⟨j, m, s, cap, hj7, rfl, rfl, hm, hrow, hBw⟩ := hrel
        by_cases hj : j < 7
        · have j1 : (j : Int) < 7 := by omega
          obtain ⟨x, hx⟩ := hq7.out j hj
          have cx := (hBw.out.cell (cell_block_lt hx)).trans hx
          have hp := Lib.hid (fun x => n_put64 hrow.out (show m ≤ 90000 by have := hm.out; have := hn.out; omega) x)
          clear hx
          go_wp2_with fail
          refine (hp.out _).mono ?_
          rintro e w3 h3
          obtain ⟨s3, c3, rfl, hv3, hB3⟩ := h3
          have hrow3 : Hid (RowN w3 (g + 1) (.slice s3 (m + 8) c3) (m + 8)) := hide (hv3.base (Nat.le_trans hW2l.out hBw.out.size))
          have hBw3 := Lib.hid (hBw.out.trans (hB3.mono hBw.out.size))
          clear hv3 hB3 cx hrow hBw hp
          go_wp2_with fail
          refine ⟨?_, ?_⟩
          rotate_left
          · simp [intOf]; omega
          first
            | exact ⟨j + 1, m + 8, s3, c3, by omega, by go_num, rfl, hide (by have := hm.out; omega), hrow3, hBw3⟩
            | (repeat (apply Exists.intro)
               exact ⟨⟨j + 1, m + 8, s3, c3, by omega, by go_num, rfl, hide (by have := hm.out; omega), hrow3, hBw3⟩, rfl⟩)
        · obtain rfl : j = 7 := by omega
          have j1 : ¬ ((7 : Nat) : Int) < 7 := by omega
          have hs9 : Hid (StAt wr g S) := hide (hs2.out.keep (hBw.out.block g hW2l.out))
          have hB9 := Lib.hid (hB2.out.trans (hBw.out.mono (Nat.le_of_lt hW2l.out)))
          clear hs2 hB2 hBw
          go_wp2_with fail
          refine ⟨?_, ?_⟩
          rotate_left
          · simp [intOf]; omega
          first
            | exact ⟨i + 1, m, s, cap, by omega, by go_num, rfl, hide (by have := hm.out; have := hn.out; omega), hrow, hs9, hB9⟩
            | (repeat (apply Exists.intro)
               exact ⟨⟨i + 1, m, s, cap, by omega, by go_num, rfl, hide (by have := hm.out; have := hn.out; omega), hrow, hs9, hB9⟩, rfl⟩)
    · obtain rfl : i = 2 := by omega
      have hl2 := hs.out.wShots
      have hrow0 := hrow
      have hs0 := hs
      have hB0 := hB
      have hn0 : Hid (n = 124 + 41 * 0) := hide (by have := hn.out; omega)
      clear hrow hs hB hn hi hi2
      go_upto_region 12 with (fail)
      clear hl2
      go_loopw [3, 53] (fun v3 v53 wr => ∃ (k n : Nat) (s : Option Addr) (cap : Nat), k ≤ 8 ∧ v53 = .int .i64 (k : Nat) ∧ v3 = .slice s n cap ∧ Hid (n = 124 + 41 * k) ∧ Hid (RowN wr (g + 1) (.slice s n cap) n) ∧ Hid (StAt wr g S) ∧ Hid (Below g w wr)) (fun _ v53 _ => 8 - (intOf v53).toNat)
      case atStart => exact ⟨0, n, s, cap, by omega, rfl, rfl, hn0, hrow0, hs0, hB0⟩
      case round =>
        clear hrow0 hs0 hB0 hn0
        obtain ⟨k, n, s, cap, hk8, rfl, rfl, hn, hrow, hs, hB⟩ := hrel
        by_cases hk : k < 8
        · have i1 : (k : Int) < 8 := by omega
          have hix := wIndex_shot S hk
          go_upto_region 14 with (fail)
          clear hix
          obtain ⟨hbx, hBx⟩ := box_row wr #[.bool false, .int .i64 0, .int .i64 0, .int .i64 0, .int .i64 0, .int .i64 0] (shotA S k) 45
          have hs1 : Hid (StAt _ g S) := hide (hs.out.keep (hBx.block g hs.out.lt))
          have hB1 := Lib.hid (hB.out.trans (hBx.mono (Nat.le_of_lt hs.out.lt)))
          have hr1 := Lib.hid (hrow.out.below hBx)
          obtain ⟨bx, hbxe⟩ : ∃ b, wr.heap.size = b := ⟨_, rfl⟩
          generalize World.setRow (World.alloc wr _) _ _ = W1 at *
          rw [hbxe] at hbx ⊢
          have hbh := Lib.hid hbx
          clear hbx hBx hbxe hs hB hrow
          have hlt1 := Lib.hid hs1.out.lt
          obtain ⟨qOn, qI⟩ := shot_cells hbh.out
          generalize decide (S (16 + k * 6) ≠ 0) = on at *
          go_upto_region 15 with (fail)
          go_upto_if 57 with (fail)
          go_cut [10] (fun v10 wx => ∃ x, v10 = .int .u8 x ∧ W1 = wx)
          case first =>
            cases on
            · go_wp2_with fail
              go_meet
              exact ⟨0, rfl, rfl⟩
            · go_wp2_with fail
              go_meet
              exact ⟨1, rfl, rfl⟩
          case rest =>
            obtain ⟨x, rfl, rfl⟩ := hcut
            clear qOn qI
            have hn9 : n ≤ 100000 := by have := hn.out; omega
            obtain ⟨s6, c6, W3, hr6, hv6, hg6⟩ := n_one hr1.out (show g + 1 ≤ W1.heap.size from hlt1.out) hn9 x 71
            have hr6h := Lib.hid hr6
            have hr3 := Lib.hid hv6
            have hs3 : Hid (StAt W3 g S) := hide (hr1.out.other hg6 hs1.out (by decide))
            have hbh3 := Lib.hid (hr1.out.other hg6 hbh.out (by decide))
            have hB3 : Hid (Below g w W3) := hide (below_grown hB1.out (by have := hgh.out; omega) hg6 (fun p hp => by have := (hr1.out.blk p hp).1; omega))
            clear hr6 hv6 hg6 hn9 hs1 hr1 hbh hB1 hlt1
            have hlt3 := Lib.hid hs3.out.lt
            go_upto_region 18 with (at_builtin; refine wpList_app_runV rfl (.tmp 58) (.tmp 60) _ _ rfl rfl rfl hr6h.out ?_)
            clear hr6h
            obtain ⟨_, qI⟩ := shot_cells hbh3.out
            have q1 := qI 1 (by decide) (by decide)
            have q2 := qI 2 (by decide) (by decide)
            have q3 := qI 3 (by decide) (by decide)
            have q4 := qI 4 (by decide) (by decide)
            have q5 := qI 5 (by decide) (by decide)
            clear qI hbh3
            go_upto_region 19 with (fail)
            clear q1 q2 q3 q4 q5
            have hBy : Hid (Below W3.heap.size W3 (W3.alloc (.cells #[.int .i64 (S (16 + k * 6 + 1)), .int .i64 (S (16 + k * 6 + 2)), .int .i64 (S (16 + k * 6 + 3)), .int .i64 (S (16 + k * 6 + 4)), .int .i64 (S (16 + k * 6 + 5))] 2))) := hide ((Below.refl _ _).alloc (Nat.le_refl _) _)
            have hq5 := Lib.hid (five_cells (last0 W3 (.cells #[.int .i64 (S (16 + k * 6 + 1)), .int .i64 (S (16 + k * 6 + 2)), .int .i64 (S (16 + k * 6 + 3)), .int .i64 (S (16 + k * 6 + 4)), .int .i64 (S (16 + k * 6 + 5))] 2) _ rfl))
            have hs2 : Hid (StAt _ g S) := hide (hs3.out.keep (hBy.out.block g hs3.out.lt))
            have hB2 := Lib.hid (hB3.out.trans (hBy.out.mono (Nat.le_of_lt hlt3.out)))
            have hr2 := Lib.hid (hr3.out.below hBy.out)
            obtain ⟨gs, hgs⟩ : ∃ b, W3.heap.size = b := ⟨_, rfl⟩
            have hW2l := Lib.hid hs2.out.lt
            generalize World.alloc W3 _ = W2 at *
            rw [hgs] at hq5 ⊢
            clear hgs hs3 hB3 hr3 hBy hlt3
            go_loopw [3, 74] (fun v3 v74 wr => ∃ (j m : Nat) (s : Option Addr) (cap : Nat), j ≤ 5 ∧ v74 = .int .i64 (j : Nat) ∧ v3 = .slice s m cap ∧ Hid (m = n + 1 + 8 * j) ∧ Hid (RowN wr (g + 1) (.slice s m cap) m) ∧ Hid (Below W2.heap.size W2 wr)) (fun _ v74 _ => 5 - (intOf v74).toNat)
            case atStart => exact ⟨0, n + 1, s6, c6, by omega, rfl, rfl, hide (by omega), hr2, hide (Below.refl _ _)⟩
            case round =>
              clear hr2
              obtain ⟨j, m, s, cap, hj5, rfl, rfl, hm, hrow, hBw⟩ := hrel
              by_cases hj : j < 5
              · have j1 : (j : Int) < 5 := by omega
                obtain ⟨x, hx⟩ := hq5.out j hj
                have cx := (hBw.out.cell (cell_block_lt hx)).trans hx
                have hp := Lib.hid (fun x => n_put64 hrow.out (show m ≤ 90000 by have := hm.out; have := hn.out; omega) x)
                clear hx
                go_wp2_with fail
                refine (hp.out _).mono ?_
                rintro e w3 h3
                obtain ⟨s3, c3, rfl, hv3, hBq⟩ := h3
                have hrow3 : Hid (RowN w3 (g + 1) (.slice s3 (m + 8) c3) (m + 8)) := hide (hv3.base (Nat.le_trans hW2l.out hBw.out.size))
                have hBw3 := Lib.hid (hBw.out.trans (hBq.mono hBw.out.size))
                clear hv3 hBq cx hrow hBw hp
                go_wp2_with fail
                refine ⟨?_, ?_⟩
                rotate_left
                · simp [intOf]; omega
                first
                  | exact ⟨j + 1, m + 8, s3, c3, by omega, by go_num, rfl, hide (by have := hm.out; omega), hrow3, hBw3⟩
                  | (repeat (apply Exists.intro)
                     exact ⟨⟨j + 1, m + 8, s3, c3, by omega, by go_num, rfl, hide (by have := hm.out; omega), hrow3, hBw3⟩, rfl⟩)
              · obtain rfl : j = 5 := by omega
                have j1 : ¬ ((5 : Nat) : Int) < 5 := by omega
                have hs9 : Hid (StAt wr g S) := hide (hs2.out.keep (hBw.out.block g hW2l.out))
                have hB9 := Lib.hid (hB2.out.trans (hBw.out.mono (Nat.le_of_lt hW2l.out)))
                clear hs2 hB2 hBw
                go_wp2_with fail
                refine ⟨?_, ?_⟩
                rotate_left
                · simp [intOf]; omega
                first
                  | exact ⟨k + 1, m, s, cap, by omega, by go_num, rfl, hide (by have := hm.out; have := hn.out; omega), hrow, hs9, hB9⟩
                  | (repeat (apply Exists.intro)
                     exact ⟨⟨k + 1, m, s, cap, by omega, by go_num, rfl, hide (by have := hm.out; have := hn.out; omega), hrow, hs9, hB9⟩, rfl⟩)
                  | exact ⟨.slice s m cap, _, _, _, .int .i64 ((k : Int) + 1), ⟨k + 1, by omega, by go_num, m, s, cap, rfl, hide (by have := hm.out; have := hn.out; omega), hrow⟩, rfl, rfl, rfl, rfl, rfl⟩
        · obtain rfl : k = 8 := by omega
          have hn9 : Hid (n = 452) := hide (by have := hn.out; omega)
          clear hn hk hk8
          have hHeld : (fun y : World => StAt y g S) wr.drew := hs.out
          have hc0 := Lib.hid (fun (y : World) (hy : StAt y g S) => hy.int (o := 64) (by omega) rfl)
          have hc1 := Lib.hid (fun (y : World) (hy : StAt y g S) => hy.int (o := 65) (by omega) rfl)
          have hrd : Hid (RowN wr.drew (g + 1) (.slice s n cap) n) := hide (hrow.out.below (below_drewN (Below.refl _ _) 1))
          have p1 := Lib.hid (n_put64 hrd.out (show n ≤ 90000 by have := hn9.out; omega) (IntKind.u64.wrap (S 64)))
          have hBd : Hid (Below g w wr.drew) := hide (below_drewN hB.out 1)
          go_upto_region 24 with (fail)
          refine h_begin 12 (fun y : World => StAt y g S) rfl (by kernel_rfl) hHeld ?_
          first
            | (refine h_run (i := 0) (v := ?_) hHeld rfl (by kernel_rfl) (by kernel_rfl) (by kernel_rfl) ?_ ?_ ?_
               rotate_left
               · rfl
               · (intro x hSx; (try dsimp only at hSx); go_simp <;> with_reducible rfl)
               simp only [Act.put, List.setIfInBounds_toArray, List.set_cons_zero, List.set_cons_succ])
            | (refine h_skip (i := 0) hHeld rfl (by kernel_rfl) (by kernel_rfl) (by kernel_rfl) ?_ ?_
               · rfl
               simp only [Act.put, List.setIfInBounds_toArray, List.set_cons_zero, List.set_cons_succ])
          first
            | (refine h_run (i := 1) (v := ?_) hHeld rfl (by kernel_rfl) (by kernel_rfl) (by kernel_rfl) ?_ ?_ ?_
               rotate_left
               · rfl
               · (intro x hSx; (try dsimp only at hSx); go_simp <;> with_reducible rfl)
               simp only [Act.put, List.setIfInBounds_toArray, List.set_cons_zero, List.set_cons_succ])
            | (refine h_skip (i := 1) hHeld rfl (by kernel_rfl) (by kernel_rfl) (by kernel_rfl) ?_ ?_
               · rfl
               simp only [Act.put, List.setIfInBounds_toArray, List.set_cons_zero, List.set_cons_succ])
          first
            | (refine h_run (i := 2) (v := ?_) hHeld rfl (by kernel_rfl) (by kernel_rfl) (by kernel_rfl) ?_ ?_ ?_
               rotate_left
               · rfl
               · (intro x hSx; (try dsimp only at hSx); go_simp <;> with_reducible rfl)
               simp only [Act.put, List.setIfInBounds_toArray, List.set_cons_zero, List.set_cons_succ])
            | (refine h_skip (i := 2) hHeld rfl (by kernel_rfl) (by kernel_rfl) (by kernel_rfl) ?_ ?_
               · rfl
               simp only [Act.put, List.setIfInBounds_toArray, List.set_cons_zero, List.set_cons_succ])
          refine h_run (i := 3) (v := .int .i64 (S 64)) hHeld rfl (by kernel_rfl) (by kernel_rfl) (by kernel_rfl) rfl (fun y hy => by have := hc0.out y hy; go_simp <;> with_reducible rfl) ?_
          simp only [Act.put, List.setIfInBounds_toArray, List.set_cons_zero, List.set_cons_succ]
          first
            | (refine h_run (i := 4) (v := ?_) hHeld rfl (by kernel_rfl) (by kernel_rfl) (by kernel_rfl) ?_ ?_ ?_
               rotate_left
               · rfl
               · (intro x hSx; (try dsimp only at hSx); go_simp <;> with_reducible rfl)
               simp only [Act.put, List.setIfInBounds_toArray, List.set_cons_zero, List.set_cons_succ])
            | (refine h_skip (i := 4) hHeld rfl (by kernel_rfl) (by kernel_rfl) (by kernel_rfl) ?_ ?_
               · rfl
               simp only [Act.put, List.setIfInBounds_toArray, List.set_cons_zero, List.set_cons_succ])
          first
            | (refine h_run (i := 6) (v := ?_) hHeld rfl (by kernel_rfl) (by kernel_rfl) (by kernel_rfl) ?_ ?_ ?_
               rotate_left
               · rfl
               · (intro x hSx; (try dsimp only at hSx); go_simp <;> with_reducible rfl)
               simp only [Act.put, List.setIfInBounds_toArray, List.set_cons_zero, List.set_cons_succ])
            | (refine h_skip (i := 6) hHeld rfl (by kernel_rfl) (by kernel_rfl) (by kernel_rfl) ?_ ?_
               · rfl
               simp only [Act.put, List.setIfInBounds_toArray, List.set_cons_zero, List.set_cons_succ])
          first
            | (refine h_run (i := 7) (v := ?_) hHeld rfl (by kernel_rfl) (by kernel_rfl) (by kernel_rfl) ?_ ?_ ?_
               rotate_left
               · rfl
               · (intro x hSx; (try dsimp only at hSx); go_simp <;> with_reducible rfl)
               simp only [Act.put, List.setIfInBounds_toArray, List.set_cons_zero, List.set_cons_succ])
            | (refine h_skip (i := 7) hHeld rfl (by kernel_rfl) (by kernel_rfl) (by kernel_rfl) ?_ ?_
               · rfl
               simp only [Act.put, List.setIfInBounds_toArray, List.set_cons_zero, List.set_cons_succ])
          refine h_run (i := 8) (v := .int .i64 (S 65)) hHeld rfl (by kernel_rfl) (by kernel_rfl) (by kernel_rfl) rfl (fun y hy => by have := hc1.out y hy; go_simp <;> with_reducible rfl) ?_
          simp only [Act.put, List.setIfInBounds_toArray, List.set_cons_zero, List.set_cons_succ]
          first
            | (refine h_run (i := 9) (v := ?_) hHeld rfl (by kernel_rfl) (by kernel_rfl) (by kernel_rfl) ?_ ?_ ?_
               rotate_left
               · rfl
               · (intro x hSx; (try dsimp only at hSx); go_simp <;> with_reducible rfl)
               simp only [Act.put, List.setIfInBounds_toArray, List.set_cons_zero, List.set_cons_succ])
            | (refine h_skip (i := 9) hHeld rfl (by kernel_rfl) (by kernel_rfl) (by kernel_rfl) ?_ ?_
               · rfl
               simp only [Act.put, List.setIfInBounds_toArray, List.set_cons_zero, List.set_cons_succ])
          refine h_call (i := 5) (fun y : World => StAt y g S) (fun _ h => h) p1.out rfl (by kernel_rfl) rfl ?_ ?_
          · go_simp <;> with_reducible rfl
          rintro _ W1 h1
          obtain ⟨s1, c1, rfl, hv1, hB1⟩ := h1
          have hs1 : Hid (StAt W1 g S) := hide ((hB1.block g hHeld.lt).trans hHeld)
          have hB1h : Hid (Below g w W1) := hide (hBd.out.trans (hB1.mono (by have := hBd.out.size; have := hgh.out; omega)))
          have hlt1 : Hid (g + 1 ≤ wr.drew.heap.size) := hide hHeld.lt
          clear hHeld p1
          have p2 := Lib.hid (n_put64 hv1 (by have := hn9.out; omega) (IntKind.u64.wrap (S 65)))
          have hHeld : (fun y : World => StAt y g S) W1 := hs1.out
          refine ⟨_, rfl, hHeld, ?_⟩
          simp only [Act.put, List.setIfInBounds_toArray, List.set_cons_zero, List.set_cons_succ]
          refine h_call (i := 10) (fun y : World => StAt y g S) (fun _ h => h) p2.out rfl (by kernel_rfl) rfl ?_ ?_
          · go_simp <;> with_reducible rfl
          rintro _ W2 h2
          obtain ⟨s2, c2, rfl, hv2, hB2⟩ := h2
          have hs2 : Hid (StAt W2 g S) := hide ((hB2.block g hHeld.lt).trans hHeld)
          have hB2h : Hid (Below w.heap.size w W2) := hide (by
            have := hB1h.out.trans (hB2.mono (by have := hB1h.out.size; have := hgh.out; omega))
            rw [hgh.out]; exact this)
          have hrow2 : Hid (RowN W2 w.heap.size (.slice s2 (n + 8 + 8) c2) (n + 8 + 8)) := hide (hv2.base (by have := hB1h.out.size; omega))
          clear hHeld p2 hv2 hv1
          have hHeld : (fun y : World => StAt y g S) W2 := hs2.out
          refine ⟨_, rfl, hHeld, ?_⟩
          simp only [Act.put, List.setIfInBounds_toArray, List.set_cons_zero, List.set_cons_succ]
          first
            | (refine h_run (i := 11) (v := ?_) hHeld rfl (by kernel_rfl) (by kernel_rfl) (by kernel_rfl) ?_ ?_ ?_
               rotate_left
               · rfl
               · (intro x hSx; (try dsimp only at hSx); go_simp <;> with_reducible rfl)
               simp only [Act.put, List.setIfInBounds_toArray, List.set_cons_zero, List.set_cons_succ])
            | (refine h_skip (i := 11) hHeld rfl (by kernel_rfl) (by kernel_rfl) (by kernel_rfl) ?_ ?_
               · rfl
               simp only [Act.put, List.setIfInBounds_toArray, List.set_cons_zero, List.set_cons_succ])
          refine h_done (by kernel_rfl) ?_
          clear hHeld hB1 hB2 hs hB hs1 hB1h hc0 hc1 hlt1 hs2 hrow hrd hBd
          go_wp2_with fail
          go_ret
          exact ⟨s2, n + 8 + 8, c2, rfl, hrow2.out, by have := hn9.out; omega, hB2h.out⟩
end Go.Proofs.Ytmfagdbocidfjaa

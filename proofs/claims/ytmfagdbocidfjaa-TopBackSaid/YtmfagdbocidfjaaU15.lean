import Derived.Test.YtmfagdbocidfjaaU14
/- A shot's way. Conditions: the state's numbers are such as their types hold. -/
namespace Go.Proofs.Ytmfagdbocidfjaa
open Go.RowKit
def fly1 (k : Nat) (S : Nat → Int) : Nat → Int := setS S (16 + k * 6 + 1) (satZ (S (16 + k * 6 + 1) + S (16 + k * 6 + 3)))
def fly2 (k : Nat) (S : Nat → Int) : Nat → Int := setS S (16 + k * 6 + 5) (wrap64 (S (16 + k * 6 + 5) - 1))
def ownB (n : Int) : Nat := (bits BinOp.and IntKind.i64 n 1).toNat
def flyOut (k : Nat) (S : Nat → Int) : Prop := S (16 + k * 6 + 5) ≤ 0 ∨ S (16 + k * 6 + 1) < 0 ∨ 13107200 < S (16 + k * 6 + 1)
instance (k : Nat) (S : Nat → Int) : Decidable (flyOut k S) := by unfold flyOut; infer_instance
def whoB (k : Nat) (S : Nat → Int) : Nat := 1 - ownB (S (16 + k * 6 + 4))
def gone (k : Nat) (S : Nat → Int) : Nat → Int := setShot S k false 0 0 0 0 0
def fly3 (k : Nat) (a b : Int) (S : Nat → Int) : Nat → Int :=
  if flyOut k S then gone k S
  else if hitZ (S (16 + k * 6 + 1)) (S (16 + k * 6 + 2)) (S (2 + whoB k S * 7)) (S (2 + whoB k S * 7 + 1)) = true then hurtF (whoB k S) (if whoB k S = 0 then a else b) (gone k S)
  else S
def flyF (k : Nat) (a b : Int) (S : Nat → Int) : Nat → Int := fly3 k a b (fly2 k (fly1 k S))
set_option maxRecDepth 100000 in
theorem and_one (n : Int) : bits BinOp.and IntKind.i64 n 1 = 0 ∨ bits BinOp.and IntKind.i64 n 1 = 1 := by
  have h : (BitVec.ofInt 64 n &&& BitVec.ofInt 64 1).toNat ≤ 1 := by
    rw [BitVec.toNat_and]
    exact Nat.le_trans Nat.and_le_right (by decide)
  show IntKind.i64.wrap ((BitVec.ofInt 64 n &&& BitVec.ofInt 64 1).toNat : Int) = 0 ∨ IntKind.i64.wrap ((BitVec.ofInt 64 n &&& BitVec.ofInt 64 1).toNat : Int) = 1
  generalize (BitVec.ofInt 64 n &&& BitVec.ofInt 64 1).toNat = m at *
  rcases (show m = 0 ∨ m = 1 by omega) with rfl | rfl
  · exact .inl (by decide)
  · exact .inr (by decide)
set_option maxRecDepth 100000 in
theorem own_lt (n : Int) : ownB n < 2 ∧ bits BinOp.and IntKind.i64 n 1 = (ownB n : Int) := by
  unfold ownB
  rcases and_one n with h | h <;> rw [h] <;> exact ⟨by decide, by decide⟩
set_option maxRecDepth 100000 in
theorem GOk.gone {k : Nat} {S : Nat → Int} (h : GOk S) : GOk (Go.Proofs.Ytmfagdbocidfjaa.gone k S) := h.shot (small_in (by decide) (by decide)) (small_in (by decide) (by decide)) (small_in (by decide) (by decide)) (small_in (by decide) (by decide)) (small_in (by decide) (by decide))
set_option maxRecDepth 100000 in
theorem GOk.fly1 {k : Nat} {S : Nat → Int} (h : GOk S) : GOk (Go.Proofs.Ytmfagdbocidfjaa.fly1 k S) := h.set (by omega) (satZ_bd _)
set_option maxRecDepth 100000 in
theorem GOk.fly2 {k : Nat} {S : Nat → Int} (h : GOk S) : GOk (Go.Proofs.Ytmfagdbocidfjaa.fly2 k S) := h.set (by omega) (wrap_in _)
set_option maxRecDepth 100000 in
theorem GOk.fly {k : Nat} {a b : Int} {S : Nat → Int} (h : GOk S) : GOk (flyF k a b S) := by
  have h2 : GOk (Go.Proofs.Ytmfagdbocidfjaa.fly2 k (Go.Proofs.Ytmfagdbocidfjaa.fly1 k S)) := h.fly1.fly2
  unfold flyF fly3
  split
  · exact h2.gone
  · split
    · exact h2.gone.hurt
    · exact h2
set_option maxRecDepth 100000 in
theorem StAt.shotRange {w : World} {g : Nat} {S : Nat → Int} (h : StAt w g S) {k : Nat} (hk : k < 8) :
    w.rangeAt g (16 + k * 6) [.bool (decide (S (16 + k * 6) ≠ 0)), .int .i64 (S (16 + k * 6 + 1)), .int .i64 (S (16 + k * 6 + 2)), .int .i64 (S (16 + k * 6 + 3)), .int .i64 (S (16 + k * 6 + 4)), .int .i64 (S (16 + k * 6 + 5))] := fun j v hv => by
  match j, hv with
  | 0, hv => rw [← hv]; exact h.bool (o := 16 + k * 6) (by omega) (kd_shot hk).1
  | 1, hv => rw [← hv]; exact h.int (o := 16 + k * 6 + 1) (by omega) ((kd_shot hk).2 1 (by decide) (by decide))
  | 2, hv => rw [← hv]; exact h.int (o := 16 + k * 6 + 2) (by omega) ((kd_shot hk).2 2 (by decide) (by decide))
  | 3, hv => rw [← hv]; exact h.int (o := 16 + k * 6 + 3) (by omega) ((kd_shot hk).2 3 (by decide) (by decide))
  | 4, hv => rw [← hv]; exact h.int (o := 16 + k * 6 + 4) (by omega) ((kd_shot hk).2 4 (by decide) (by decide))
  | 5, hv => rw [← hv]; exact h.int (o := 16 + k * 6 + 5) (by omega) ((kd_shot hk).2 5 (by decide) (by decide))
  | n + 6, hv => cases hv
set_option maxRecDepth 100000 in
theorem StAt.bodyRange {w : World} {g : Nat} {S : Nat → Int} (h : StAt w g S) {i : Nat} (hi : i < 2) :
    w.rangeAt g (2 + i * 7) [.int .i64 (S (2 + i * 7)), .int .i64 (S (2 + i * 7 + 1)), .int .i64 (S (2 + i * 7 + 2)), .int .i64 (S (2 + i * 7 + 3)), .int .i64 (S (2 + i * 7 + 4)), .int .i64 (S (2 + i * 7 + 5)), .int .i64 (S (2 + i * 7 + 6))] := fun j v hv => by
  match j, hv with
  | 0, hv => rw [← hv]; exact h.int (o := 2 + i * 7) (by omega) (kd_body hi (j := 0) (by decide))
  | 1, hv => rw [← hv]; exact h.int (o := 2 + i * 7 + 1) (by omega) (kd_body hi (by decide))
  | 2, hv => rw [← hv]; exact h.int (o := 2 + i * 7 + 2) (by omega) (kd_body hi (by decide))
  | 3, hv => rw [← hv]; exact h.int (o := 2 + i * 7 + 3) (by omega) (kd_body hi (by decide))
  | 4, hv => rw [← hv]; exact h.int (o := 2 + i * 7 + 4) (by omega) (kd_body hi (by decide))
  | 5, hv => rw [← hv]; exact h.int (o := 2 + i * 7 + 5) (by omega) (kd_body hi (by decide))
  | 6, hv => rw [← hv]; exact h.int (o := 2 + i * 7 + 6) (by omega) (kd_body hi (by decide))
  | n + 7, hv => cases hv
set_option maxRecDepth 100000 in
theorem exec_load {P : Program} {o : Oper} {a : Act} {w : World} {v r : Value} (p : Operand) (t : TypeId) (ho : o.op = .load t p) (hp : a.eval p = v) (hr : (Instr.loadAt t v).run P w = .ok r w) :
    (execOp a.eval o).run P w = .ok (.value r) w := by
  unfold execOp
  simp only [ho, hp, Sem.run_bind, Sem.run_pure, Result.andThen_ok, hr]
set_option maxRecDepth 100000 in
theorem StAt.loadShot {w : World} {g : Nat} {S : Nat → Int} (h : StAt w g S) {k : Nat} (hk : k < 8) :
    (Instr.loadAt 45 (.pointer (some ⟨g, 16 + k * 6, none⟩))).run Try.prog w = .ok (.agg #[.bool (decide (S (16 + k * 6) ≠ 0)), .int .i64 (S (16 + k * 6 + 1)), .int .i64 (S (16 + k * 6 + 2)), .int .i64 (S (16 + k * 6 + 3)), .int .i64 (S (16 + k * 6 + 4)), .int .i64 (S (16 + k * 6 + 5))]) w :=
  run_loadAt_mid w g (16 + k * 6) _ _ _ (h.shotRange hk) Try.underlying45 rfl shot_info
set_option maxRecDepth 100000 in
theorem StAt.loadBody {w : World} {g : Nat} {S : Nat → Int} (h : StAt w g S) {i : Nat} (hi : i < 2) :
    (Instr.loadAt 42 (.pointer (some ⟨g, 2 + i * 7, none⟩))).run Try.prog w = .ok (.agg #[.int .i64 (S (2 + i * 7)), .int .i64 (S (2 + i * 7 + 1)), .int .i64 (S (2 + i * 7 + 2)), .int .i64 (S (2 + i * 7 + 3)), .int .i64 (S (2 + i * 7 + 4)), .int .i64 (S (2 + i * 7 + 5)), .int .i64 (S (2 + i * 7 + 6))]) w :=
  run_loadAt_mid w g (2 + i * 7) _ _ _ (h.bodyRange hi) Try.underlying42 rfl body_info
set_option maxRecDepth 100000 in
theorem heap_setCells_other (g b : Nat) : ∀ (vs : List Value) (o : Nat) (w : World), b ≠ g → (w.setCells g o vs).heap[b]? = w.heap[b]?
  | [], _, _, _ => rfl
  | v :: vs, o, w, h => (heap_setCells_other g b vs (o + 1) _ h).trans (heap_setCell_other w ⟨g, o, none⟩ b v h)
def goneA : Array Value := #[.bool false, .int .i64 0, .int .i64 0, .int .i64 0, .int .i64 0, .int .i64 0]
set_option maxRecDepth 100000 in
theorem zeroShot (w : World) : (zeroValue 45).run Try.prog w = .ok (.agg goneA) w := by kernel_rfl
set_option maxRecDepth 100000 in
theorem gone_one : goneA.all (·.oneCell') = true := by unfold goneA; simp [Value.oneCell']
set_option maxRecDepth 100000 in
theorem gone_info : (Try.prog.info? 45).map (·.size) = some goneA.size := shot_info
set_option maxRecDepth 100000 in
theorem StAt.goneThere {w : World} {g : Nat} {S : Nat → Int} (h : StAt w g S) {k : Nat} (hk : k < 8) : w.there g (16 + k * 6) goneA.size := h.there (by show 16 + k * 6 + 6 ≤ 66; omega)
set_option maxRecDepth 100000 in
theorem StAt.gone {w : World} {g : Nat} {S : Nat → Int} (h : StAt w g S) {k : Nat} (hk : k < 8) : StAt (w.setCells g (16 + k * 6) goneA.toList) g (Go.Proofs.Ytmfagdbocidfjaa.gone k S) := h.shot hk false 0 0 0 0 0
attribute [local irreducible] stA fmulZ satZ clampZ nearZ bornA hitZ ownB goneA
set_option maxRecDepth 100000 in
set_option maxHeartbeats 8000000 in
theorem g_fly (g k : Nat) (hk : k < 8) (S : Nat → Int) (a b : Int) (w : World) (h : StAt w g S) (ok : GOk S) :
    Calls Try.prog 47 #[.pointer (some ⟨g, 0, none⟩), .int .i64 (k : Nat), .agg #[.int .u16 a, .int .u16 b]] w (GPost w g (flyF k a b S)) := by
  have i1 : (k : Int) < 8 := by omega
  have hh : Hid (StAt (w.alloc (.cells #[.int .u16 a, .int .u16 b] 52)) g S) := hide (alloc0 _ _ _ _ h)
  have hq := Lib.hid (last0 w (.cells #[.int .u16 a, .int .u16 b] 52) w.heap.size rfl)
  have hG : Hid (w.grownBy (w.alloc (.cells #[.int .u16 a, .int .u16 b] 52)) (some g)) := hide (only_of_below ((Below.refl _ _).alloc (Nat.le_refl _) _) _)
  have hgq : g ≠ w.heap.size := by have := h.lt; omega
  have okh := Lib.hid ok
  have k1 := (kd_shot hk).2 1 (by decide) (by decide)
  have k3 := (kd_shot hk).2 3 (by decide) (by decide)
  have k4 := (kd_shot hk).2 4 (by decide) (by decide)
  have k5 := (kd_shot hk).2 5 (by decide) (by decide)
  have o1 : 16 + k * 6 + 1 < 66 := by omega
  have o3 : 16 + k * 6 + 3 < 66 := by omega
  have o4 : 16 + k * 6 + 4 < 66 := by omega
  have o5 : 16 + k * 6 + 5 < 66 := by omega
  clear h ok
  unfold flyF
  go_enter Try.func47, Try.ntmps47
  go_upto_region 2 with (fail)
  generalize World.alloc w _ = w1 at *
  have hd : Hid (StAt w1.drew g S) := hide hh.out
  have c1 := hd.out.int o1 k1
  have c3 := hd.out.int o3 k3
  have f1 := hd.out.fr (16 + k * 6 + 1)
  have c3' := (only_cell0 (w := w1.drew) (g := g) (o := 16 + k * 6 + 3) (p := 16 + k * 6 + 1) (v := .int .i64 (satZ (S (16 + k * 6 + 1) + S (16 + k * 6 + 3)))) (by omega)).trans c3
  have a2 := Lib.hid (w_add (S (16 + k * 6 + 1)) (S (16 + k * 6 + 3)) w1.drew (okh.out.1 _ o1) (okh.out.1 _ o3))
  have hs : Hid (StAt (w1.drew.setCell ⟨g, 16 + k * 6 + 1, none⟩ (.int .i64 (satZ (S (16 + k * 6 + 1) + S (16 + k * 6 + 3))))) g (fly1 k S)) := hide (hd.out.set o1 k1 _)
  have hg := Lib.hid (only_set (only_drew hG.out) (16 + k * 6 + 1) (.int .i64 (satZ (S (16 + k * 6 + 1) + S (16 + k * 6 + 3)))))
  have hq1 : Hid ((w1.drew.setCell ⟨g, 16 + k * 6 + 1, none⟩ (.int .i64 (satZ (S (16 + k * 6 + 1) + S (16 + k * 6 + 3))))).heap[w.heap.size]? = some (.cells #[.int .u16 a, .int .u16 b] 52 (0, 0))) := hide ((heap_setCell_other _ ⟨g, 16 + k * 6 + 1, none⟩ _ _ (Ne.symm hgq)).trans hq.out)
  have ok1 := Lib.hid (okh.out.fly1 (k := k))
  refine h_begin 13 (fun y : World => y.cell? ⟨g, 16 + k * 6 + 3, none⟩ = some (.int .i64 (S (16 + k * 6 + 3)))) rfl (by kernel_rfl) c3 ?_
  have hHeld := c3
  first
    | (refine h_run (i := 0) (v := ?_) hHeld rfl (by kernel_rfl) (by kernel_rfl) (by kernel_rfl) ?_ ?_ ?_
       rotate_left
       · rfl
       · (intro x hSx; (try dsimp only at hSx); go_simp <;> with_reducible rfl)
       simp only [Act.put, List.setIfInBounds_toArray, List.set_cons_zero, List.set_cons_succ])
    | (refine h_skip (i := 0) hHeld rfl (by kernel_rfl) (by kernel_rfl) (by kernel_rfl) ?_ ?_
       · rfl
       simp only [Act.put, List.setIfInBounds_toArray, List.set_cons_zero, List.set_cons_succ])
  first
    | (refine h_run (i := 1) (v := ?_) hHeld rfl (by kernel_rfl) (by kernel_rfl) (by kernel_rfl) ?_ ?_ ?_
       rotate_left
       · rfl
       · (intro x hSx; (try dsimp only at hSx); go_simp <;> with_reducible rfl)
       simp only [Act.put, List.setIfInBounds_toArray, List.set_cons_zero, List.set_cons_succ])
    | (refine h_skip (i := 1) hHeld rfl (by kernel_rfl) (by kernel_rfl) (by kernel_rfl) ?_ ?_
       · rfl
       simp only [Act.put, List.setIfInBounds_toArray, List.set_cons_zero, List.set_cons_succ])
  first
    | (refine h_run (i := 2) (v := ?_) hHeld rfl (by kernel_rfl) (by kernel_rfl) (by kernel_rfl) ?_ ?_ ?_
       rotate_left
       · rfl
       · (intro x hSx; (try dsimp only at hSx); go_simp <;> with_reducible rfl)
       simp only [Act.put, List.setIfInBounds_toArray, List.set_cons_zero, List.set_cons_succ])
    | (refine h_skip (i := 2) hHeld rfl (by kernel_rfl) (by kernel_rfl) (by kernel_rfl) ?_ ?_
       · rfl
       simp only [Act.put, List.setIfInBounds_toArray, List.set_cons_zero, List.set_cons_succ])
  first
    | (refine h_run (i := 3) (v := ?_) hHeld rfl (by kernel_rfl) (by kernel_rfl) (by kernel_rfl) ?_ ?_ ?_
       rotate_left
       · rfl
       · (intro x hSx; (try dsimp only at hSx); go_simp <;> with_reducible rfl)
       simp only [Act.put, List.setIfInBounds_toArray, List.set_cons_zero, List.set_cons_succ])
    | (refine h_skip (i := 3) hHeld rfl (by kernel_rfl) (by kernel_rfl) (by kernel_rfl) ?_ ?_
       · rfl
       simp only [Act.put, List.setIfInBounds_toArray, List.set_cons_zero, List.set_cons_succ])
  first
    | (refine h_run (i := 5) (v := ?_) hHeld rfl (by kernel_rfl) (by kernel_rfl) (by kernel_rfl) ?_ ?_ ?_
       rotate_left
       · rfl
       · (intro x hSx; (try dsimp only at hSx); go_simp <;> with_reducible rfl)
       simp only [Act.put, List.setIfInBounds_toArray, List.set_cons_zero, List.set_cons_succ])
    | (refine h_skip (i := 5) hHeld rfl (by kernel_rfl) (by kernel_rfl) (by kernel_rfl) ?_ ?_
       · rfl
       simp only [Act.put, List.setIfInBounds_toArray, List.set_cons_zero, List.set_cons_succ])
  first
    | (refine h_run (i := 6) (v := ?_) hHeld rfl (by kernel_rfl) (by kernel_rfl) (by kernel_rfl) ?_ ?_ ?_
       rotate_left
       · rfl
       · (intro x hSx; (try dsimp only at hSx); go_simp <;> with_reducible rfl)
       simp only [Act.put, List.setIfInBounds_toArray, List.set_cons_zero, List.set_cons_succ])
    | (refine h_skip (i := 6) hHeld rfl (by kernel_rfl) (by kernel_rfl) (by kernel_rfl) ?_ ?_
       · rfl
       simp only [Act.put, List.setIfInBounds_toArray, List.set_cons_zero, List.set_cons_succ])
  first
    | (refine h_run (i := 7) (v := ?_) hHeld rfl (by kernel_rfl) (by kernel_rfl) (by kernel_rfl) ?_ ?_ ?_
       rotate_left
       · rfl
       · (intro x hSx; (try dsimp only at hSx); go_simp <;> with_reducible rfl)
       simp only [Act.put, List.setIfInBounds_toArray, List.set_cons_zero, List.set_cons_succ])
    | (refine h_skip (i := 7) hHeld rfl (by kernel_rfl) (by kernel_rfl) (by kernel_rfl) ?_ ?_
       · rfl
       simp only [Act.put, List.setIfInBounds_toArray, List.set_cons_zero, List.set_cons_succ])
  first
    | (refine h_run (i := 8) (v := ?_) hHeld rfl (by kernel_rfl) (by kernel_rfl) (by kernel_rfl) ?_ ?_ ?_
       rotate_left
       · rfl
       · (intro x hSx; (try dsimp only at hSx); go_simp <;> with_reducible rfl)
       simp only [Act.put, List.setIfInBounds_toArray, List.set_cons_zero, List.set_cons_succ])
    | (refine h_skip (i := 8) hHeld rfl (by kernel_rfl) (by kernel_rfl) (by kernel_rfl) ?_ ?_
       · rfl
       simp only [Act.put, List.setIfInBounds_toArray, List.set_cons_zero, List.set_cons_succ])
  refine h_value (i := 4) (v := .int .i64 (S (16 + k * 6 + 1))) (w' := w1.drew) (fun y : World => y.cell? ⟨g, 16 + k * 6 + 3, none⟩ = some (.int .i64 (S (16 + k * 6 + 3)))) (fun _ h => h) rfl (by kernel_rfl) rfl ?_ c3 ?_
  · go_simp <;> with_reducible rfl
  simp only [Act.put, List.setIfInBounds_toArray, List.set_cons_zero, List.set_cons_succ]
  refine h_call (i := 9) (fun y : World => y.cell? ⟨g, 16 + k * 6 + 3, none⟩ = some (.int .i64 (S (16 + k * 6 + 3)))) (fun _ h => h) a2.out rfl (by kernel_rfl) rfl ?_ ?_
  · go_simp <;> with_reducible rfl
  rintro _ y ⟨rfl, rfl⟩
  refine ⟨_, rfl, c3, ?_⟩
  first
    | (refine h_run (i := 10) (v := ?_) hHeld rfl (by kernel_rfl) (by kernel_rfl) (by kernel_rfl) ?_ ?_ ?_
       rotate_left
       · rfl
       · (intro x hSx; (try dsimp only at hSx); go_simp <;> with_reducible rfl)
       simp only [Act.put, List.setIfInBounds_toArray, List.set_cons_zero, List.set_cons_succ])
    | (refine h_skip (i := 10) hHeld rfl (by kernel_rfl) (by kernel_rfl) (by kernel_rfl) ?_ ?_
       · rfl
       simp only [Act.put, List.setIfInBounds_toArray, List.set_cons_zero, List.set_cons_succ])
  first
    | (refine h_run (i := 11) (v := ?_) hHeld rfl (by kernel_rfl) (by kernel_rfl) (by kernel_rfl) ?_ ?_ ?_
       rotate_left
       · rfl
       · (intro x hSx; (try dsimp only at hSx); go_simp <;> with_reducible rfl)
       simp only [Act.put, List.setIfInBounds_toArray, List.set_cons_zero, List.set_cons_succ])
    | (refine h_skip (i := 11) hHeld rfl (by kernel_rfl) (by kernel_rfl) (by kernel_rfl) ?_ ?_
       · rfl
       simp only [Act.put, List.setIfInBounds_toArray, List.set_cons_zero, List.set_cons_succ])
  refine h_write (i := 12) (w' := w1.drew.setCell ⟨g, 16 + k * 6 + 1, none⟩ (.int .i64 (satZ (S (16 + k * 6 + 1) + S (16 + k * 6 + 3))))) (fun y : World => y.cell? ⟨g, 16 + k * 6 + 3, none⟩ = some (.int .i64 (S (16 + k * 6 + 3)))) (fun _ h => h) rfl (by kernel_rfl) rfl ?_ c3' ?_
  · go_simp <;> with_reducible rfl
  refine h_done (by kernel_rfl) ?_
  clear hHeld c1 c3 c3' f1 a2 hd hh hG hq okh
  generalize World.setCell _ _ _ = w2 at *
  generalize fly1 k S = S1 at *
  have c5 := hs.out.int o5 k5
  have f5 := hs.out.fr (16 + k * 6 + 5)
  have hs2 : Hid (StAt (w2.setCell ⟨g, 16 + k * 6 + 5, none⟩ (.int .i64 (wrap64 (S1 (16 + k * 6 + 5) - 1)))) g (fly2 k S1)) := hide (hs.out.set o5 k5 _)
  have hg2 := Lib.hid (only_set hg.out (16 + k * 6 + 5) (.int .i64 (wrap64 (S1 (16 + k * 6 + 5) - 1))))
  have hq2 : Hid ((w2.setCell ⟨g, 16 + k * 6 + 5, none⟩ (.int .i64 (wrap64 (S1 (16 + k * 6 + 5) - 1)))).heap[w.heap.size]? = some (.cells #[.int .u16 a, .int .u16 b] 52 (0, 0))) := hide ((heap_setCell_other _ ⟨g, 16 + k * 6 + 5, none⟩ _ _ (Ne.symm hgq)).trans hq1.out)
  have ok2 := Lib.hid (ok1.out.fly2 (k := k))
  go_upto_region 4 with (fail)
  clear c5 f5 hs hg hq1 ok1
  generalize World.setCell _ _ _ = w3 at *
  generalize fly2 k S1 = S2 at *
  have c5 := hs2.out.int o5 k5
  have c1 := hs2.out.int o1 k1
  go_cut [50] (fun v50 wx => v50 = .bool (decide (flyOut k S2)) ∧ w3 = wx)
  case first =>
    have hfo : Hid (flyOut k S2 ↔ (S2 (16 + k * 6 + 5) ≤ 0 ∨ S2 (16 + k * 6 + 1) < 0 ∨ 13107200 < S2 (16 + k * 6 + 1))) := hide Iff.rfl
    obtain ⟨n5, h5⟩ : ∃ n, S2 (16 + k * 6 + 5) = n := ⟨_, rfl⟩
    obtain ⟨n1, h1⟩ : ∃ n, S2 (16 + k * 6 + 1) = n := ⟨_, rfl⟩
    rw [h5] at c5
    rw [h1] at c1
    rw [h5, h1] at hfo
    clear h5 h1
    by_cases e5 : n5 ≤ 0
    · have d5 : decide (n5 ≤ 0) = true := decide_eq_true e5
      have hr : Hid (decide (flyOut k S2) = true) := hide (decide_eq_true (hfo.out.2 (.inl e5)))
      go_wp2_with fail
      go_meet
      exact ⟨by rw [hr.out], rfl⟩
    · have d5 : decide (n5 ≤ 0) = false := decide_eq_false e5
      by_cases e1 : n1 < 0
      · have d1 : decide (n1 < 0) = true := decide_eq_true e1
        have hr : Hid (decide (flyOut k S2) = true) := hide (decide_eq_true (hfo.out.2 (.inr (.inl e1))))
        go_wp2_with fail
        go_meet
        exact ⟨by rw [hr.out], rfl⟩
      · have d1 : decide (n1 < 0) = false := decide_eq_false e1
        by_cases e2 : 13107200 < n1
        · have d2 : decide (13107200 < n1) = true := decide_eq_true e2
          have hr : Hid (decide (flyOut k S2) = true) := hide (decide_eq_true (hfo.out.2 (.inr (.inr e2))))
          go_wp2_with fail
          go_meet
          exact ⟨by rw [hr.out], rfl⟩
        · have d2 : decide (13107200 < n1) = false := decide_eq_false e2
          have hr : Hid (decide (flyOut k S2) = false) := hide (decide_eq_false (fun h => by
            rcases hfo.out.1 h with h | h | h
            · exact e5 h
            · exact e1 h
            · exact e2 h))
          go_wp2_with fail
          go_meet
          exact ⟨by rw [hr.out], rfl⟩
  case rest =>
    obtain ⟨rfl, rfl⟩ := hcut
    clear c5 c1
    have ht := hs2.out.goneThere hk
    have hz := zeroShot
    have hsg := Lib.hid (hs2.out.gone hk)
    have hgg := Lib.hid (only_setCells hg2.out goneA.toList (16 + k * 6))
    by_cases hfo : flyOut k S2
    · rw [decide_eq_true hfo]
      have e : Hid (GPost w g (fly3 k a b S2) (.returned (.tuple #[])) (w3.setCells g (16 + k * 6) goneA.toList)) := hide (by
        unfold fly3; rw [if_pos hfo]; exact ⟨rfl, hsg.out, hgg.out⟩)
      go_wp2_with (with_reducible refine wpList_store_mid rfl 45 (.tmp 53) (.tmp 52) rfl g (16 + k * 6) goneA rfl rfl ht gone_info gone_one ?_)
      go_end0
      exact e.out
    · rw [decide_eq_false hfo]
      have hf3 : Hid (fly3 k a b S2 = if hitZ (S2 (16 + k * 6 + 1)) (S2 (16 + k * 6 + 2)) (S2 (2 + whoB k S2 * 7)) (S2 (2 + whoB k S2 * 7 + 1)) = true then hurtF (whoB k S2) (if whoB k S2 = 0 then a else b) (gone k S2) else S2) := hide (by unfold fly3; rw [if_neg hfo])
      clear hfo
      have c4 := hs2.out.int o4 k4
      have hob := own_lt (S2 (16 + k * 6 + 4))
      have hwb : whoB k S2 = 1 - ownB (S2 (16 + k * 6 + 4)) := rfl
      generalize ownB (S2 (16 + k * 6 + 4)) = ob at *
      obtain ⟨hob1, hbit⟩ := hob
      have hI : Hid (∀ o, o < 66 → I64 (S2 o)) := hide ok2.out.1
      rcases (show ob = 1 ∨ ob = 0 by omega) with rfl | rfl
      · have hf4 : Hid (fly3 k a b S2 = if hitZ (S2 (16 + k * 6 + 1)) (S2 (16 + k * 6 + 2)) (S2 2) (S2 3) = true then hurtF 0 a (gone k S2) else S2) := hide (by rw [hf3.out, hwb]; rfl)
        have hl : Hid (∀ y, StAt y g S2 → (Instr.loadAt 42 (.pointer (some ⟨g, 2, none⟩))).run Try.prog y = .ok (.agg #[.int .i64 (S2 2), .int .i64 (S2 3), .int .i64 (S2 4), .int .i64 (S2 5), .int .i64 (S2 6), .int .i64 (S2 7), .int .i64 (S2 8)]) y) := hide (fun y hy => hy.loadBody (i := 0) (by decide))
        have hc : Hid (∀ y, Calls Try.prog 80 #[.agg #[.bool (decide (S2 (16 + k * 6) ≠ 0)), .int .i64 (S2 (16 + k * 6 + 1)), .int .i64 (S2 (16 + k * 6 + 2)), .int .i64 (S2 (16 + k * 6 + 3)), .int .i64 (S2 (16 + k * 6 + 4)), .int .i64 (S2 (16 + k * 6 + 5))], .agg #[.int .i64 (S2 2), .int .i64 (S2 3), .int .i64 (S2 4), .int .i64 (S2 5), .int .i64 (S2 6), .int .i64 (S2 7), .int .i64 (S2 8)]] y (fun e w' => e = .returned (.bool (hitZ (S2 (16 + k * 6 + 1)) (S2 (16 + k * 6 + 2)) (S2 2) (S2 3))) ∧ Below y.heap.size y w')) := hide (fun y => g_hits _ _ _ _ _ _ _ _ _ _ _ _ _ y (hI.out _ o1) (hI.out _ (by omega)) (hI.out _ (by decide)) (hI.out _ (by decide)))
        have hbit0 : bits BinOp.and IntKind.i64 (S2 (16 + k * 6 + 4)) 1 = 1 := hbit
        clear hbit hob1 hwb hf3
        go_upto_region 7 with (fail)
        clear hbit0 c4
        have hHeld : (fun y : World => StAt y g S2) w3.drew := hs2.out
        refine h_begin 10 (fun y : World => StAt y g S2) rfl (by kernel_rfl) hHeld ?_
        first
          | (refine h_run (i := 0) (v := ?_) hHeld rfl (by kernel_rfl) (by kernel_rfl) (by kernel_rfl) ?_ ?_ ?_
             rotate_left
             · rfl
             · (intro x hSx; (try dsimp only at hSx); go_simp <;> with_reducible rfl)
             simp only [Act.put, List.setIfInBounds_toArray, List.set_cons_zero, List.set_cons_succ])
          | (refine h_skip (i := 0) hHeld rfl (by kernel_rfl) (by kernel_rfl) (by kernel_rfl) ?_ ?_
             · rfl
             simp only [Act.put, List.setIfInBounds_toArray, List.set_cons_zero, List.set_cons_succ])
        first
          | (refine h_run (i := 1) (v := ?_) hHeld rfl (by kernel_rfl) (by kernel_rfl) (by kernel_rfl) ?_ ?_ ?_
             rotate_left
             · rfl
             · (intro x hSx; (try dsimp only at hSx); go_simp <;> with_reducible rfl)
             simp only [Act.put, List.setIfInBounds_toArray, List.set_cons_zero, List.set_cons_succ])
          | (refine h_skip (i := 1) hHeld rfl (by kernel_rfl) (by kernel_rfl) (by kernel_rfl) ?_ ?_
             · rfl
             simp only [Act.put, List.setIfInBounds_toArray, List.set_cons_zero, List.set_cons_succ])
        refine h_run (i := 2) (v := .agg #[.bool (decide (S2 (16 + k * 6) ≠ 0)), .int .i64 (S2 (16 + k * 6 + 1)), .int .i64 (S2 (16 + k * 6 + 2)), .int .i64 (S2 (16 + k * 6 + 3)), .int .i64 (S2 (16 + k * 6 + 4)), .int .i64 (S2 (16 + k * 6 + 5))]) hHeld rfl (by kernel_rfl) (by kernel_rfl) (by kernel_rfl) rfl (fun y hy => exec_load (.tmp 61) _ rfl rfl (StAt.loadShot hy hk)) ?_
        simp only [Act.put, List.setIfInBounds_toArray, List.set_cons_zero, List.set_cons_succ]
        first
          | (refine h_run (i := 3) (v := ?_) hHeld rfl (by kernel_rfl) (by kernel_rfl) (by kernel_rfl) ?_ ?_ ?_
             rotate_left
             · rfl
             · (intro x hSx; (try dsimp only at hSx); go_simp <;> with_reducible rfl)
             simp only [Act.put, List.setIfInBounds_toArray, List.set_cons_zero, List.set_cons_succ])
          | (refine h_skip (i := 3) hHeld rfl (by kernel_rfl) (by kernel_rfl) (by kernel_rfl) ?_ ?_
             · rfl
             simp only [Act.put, List.setIfInBounds_toArray, List.set_cons_zero, List.set_cons_succ])
        first
          | (refine h_run (i := 4) (v := ?_) hHeld rfl (by kernel_rfl) (by kernel_rfl) (by kernel_rfl) ?_ ?_ ?_
             rotate_left
             · rfl
             · (intro x hSx; (try dsimp only at hSx); go_simp <;> with_reducible rfl)
             simp only [Act.put, List.setIfInBounds_toArray, List.set_cons_zero, List.set_cons_succ])
          | (refine h_skip (i := 4) hHeld rfl (by kernel_rfl) (by kernel_rfl) (by kernel_rfl) ?_ ?_
             · rfl
             simp only [Act.put, List.setIfInBounds_toArray, List.set_cons_zero, List.set_cons_succ])
        first
          | (refine h_run (i := 5) (v := ?_) hHeld rfl (by kernel_rfl) (by kernel_rfl) (by kernel_rfl) ?_ ?_ ?_
             rotate_left
             · rfl
             · (intro x hSx; (try dsimp only at hSx); go_simp <;> with_reducible rfl)
             simp only [Act.put, List.setIfInBounds_toArray, List.set_cons_zero, List.set_cons_succ])
          | (refine h_skip (i := 5) hHeld rfl (by kernel_rfl) (by kernel_rfl) (by kernel_rfl) ?_ ?_
             · rfl
             simp only [Act.put, List.setIfInBounds_toArray, List.set_cons_zero, List.set_cons_succ])
        first
          | (refine h_run (i := 6) (v := ?_) hHeld rfl (by kernel_rfl) (by kernel_rfl) (by kernel_rfl) ?_ ?_ ?_
             rotate_left
             · rfl
             · (intro x hSx; (try dsimp only at hSx); go_simp <;> with_reducible rfl)
             simp only [Act.put, List.setIfInBounds_toArray, List.set_cons_zero, List.set_cons_succ])
          | (refine h_skip (i := 6) hHeld rfl (by kernel_rfl) (by kernel_rfl) (by kernel_rfl) ?_ ?_
             · rfl
             simp only [Act.put, List.setIfInBounds_toArray, List.set_cons_zero, List.set_cons_succ])
        first
          | (refine h_run (i := 7) (v := ?_) hHeld rfl (by kernel_rfl) (by kernel_rfl) (by kernel_rfl) ?_ ?_ ?_
             rotate_left
             · rfl
             · (intro x hSx; (try dsimp only at hSx); go_simp <;> with_reducible rfl)
             simp only [Act.put, List.setIfInBounds_toArray, List.set_cons_zero, List.set_cons_succ])
          | (refine h_skip (i := 7) hHeld rfl (by kernel_rfl) (by kernel_rfl) (by kernel_rfl) ?_ ?_
             · rfl
             simp only [Act.put, List.setIfInBounds_toArray, List.set_cons_zero, List.set_cons_succ])
        refine h_run (i := 8) (v := .agg #[.int .i64 (S2 2), .int .i64 (S2 3), .int .i64 (S2 4), .int .i64 (S2 5), .int .i64 (S2 6), .int .i64 (S2 7), .int .i64 (S2 8)]) hHeld rfl (by kernel_rfl) (by kernel_rfl) (by kernel_rfl) rfl (fun y hy => exec_load (.tmp 67) _ rfl rfl (hl.out y hy)) ?_
        simp only [Act.put, List.setIfInBounds_toArray, List.set_cons_zero, List.set_cons_succ]
        refine h_call (i := 9) (fun y : World => StAt y g S2) (fun _ h => h) (hc.out _) rfl (by kernel_rfl) rfl ?_ ?_
        · go_simp <;> with_reducible rfl
        rintro _ w4 ⟨rfl, hB4⟩
        have hs4 : Hid (StAt w4 g S2) := hide ((hB4.block g hHeld.lt).trans hHeld)
        have hg4 := Lib.hid (only_trans (only_drew hg2.out) (only_of_below hB4 (some g)))
        have hq4 : Hid (w4.heap[w.heap.size]? = some (.cells #[.int .u16 a, .int .u16 b] 52 (0, 0))) := hide ((hB4.block _ (Array.getElem?_eq_some_iff.1 (show w3.drew.heap[w.heap.size]? = _ from hq2.out)).1).trans hq2.out)
        refine ⟨_, rfl, hs4.out, ?_⟩
        simp only [Act.put, List.setIfInBounds_toArray, List.set_cons_zero, List.set_cons_succ]
        refine h_done (by kernel_rfl) ?_
        clear hHeld hs2 hg2 hq2 hB4 hl hc ht hsg hgg
        generalize hitZ (S2 (16 + k * 6 + 1)) (S2 (16 + k * 6 + 2)) (S2 2) (S2 3) = hb at *
        cases hb
        · have e : Hid (GPost w g (fly3 k a b S2) (.returned (.tuple #[])) w4) := hide (by
            rw [hf4.out]; exact ⟨rfl, hs4.out, hg4.out⟩)
          go_wp2_with fail
          go_end0
          exact e.out
        · have ht := hs4.out.goneThere hk
          have hs5 := Lib.hid (hs4.out.gone hk)
          have hg5 := Lib.hid (only_setCells hg4.out goneA.toList (16 + k * 6))
          have hq5 : Hid ((w4.setCells g (16 + k * 6) goneA.toList).heap[w.heap.size]? = some (.cells #[.int .u16 a, .int .u16 b] 52 (0, 0))) := hide ((heap_setCells_other _ _ _ _ _ (Ne.symm hgq)).trans hq4.out)
          have ok5 := Lib.hid (ok2.out.gone (k := k))
          go_upto_region 9 with (with_reducible refine wpList_store_mid rfl 45 (.tmp 72) (.tmp 71) rfl g (16 + k * 6) goneA rfl rfl ht gone_info gone_one ?_)
          clear ht
          generalize World.setCells _ _ _ _ = w5 at *
          have cI := (cell_of_block hq5.out (i := 0)).trans rfl
          go_wp2_with fail
          refine (g_hurt g 0 (by decide) (gone k S2) a w5 hs5.out ok5.out).mono ?_
          rintro e w6 ⟨rfl, hs6, hg6⟩
          have e : Hid (GPost w g (fly3 k a b S2) (.returned (.tuple #[])) w6) := hide (by
            rw [hf4.out]; exact ⟨rfl, hs6, only_trans hg5.out hg6⟩)
          clear hs6 hg6
          go_wp2_with fail
          go_end0
          exact e.out
      · have hf4 : Hid (fly3 k a b S2 = if hitZ (S2 (16 + k * 6 + 1)) (S2 (16 + k * 6 + 2)) (S2 9) (S2 10) = true then hurtF 1 b (gone k S2) else S2) := hide (by rw [hf3.out, hwb]; rfl)
        have hl : Hid (∀ y, StAt y g S2 → (Instr.loadAt 42 (.pointer (some ⟨g, 9, none⟩))).run Try.prog y = .ok (.agg #[.int .i64 (S2 9), .int .i64 (S2 10), .int .i64 (S2 11), .int .i64 (S2 12), .int .i64 (S2 13), .int .i64 (S2 14), .int .i64 (S2 15)]) y) := hide (fun y hy => hy.loadBody (i := 1) (by decide))
        have hc : Hid (∀ y, Calls Try.prog 80 #[.agg #[.bool (decide (S2 (16 + k * 6) ≠ 0)), .int .i64 (S2 (16 + k * 6 + 1)), .int .i64 (S2 (16 + k * 6 + 2)), .int .i64 (S2 (16 + k * 6 + 3)), .int .i64 (S2 (16 + k * 6 + 4)), .int .i64 (S2 (16 + k * 6 + 5))], .agg #[.int .i64 (S2 9), .int .i64 (S2 10), .int .i64 (S2 11), .int .i64 (S2 12), .int .i64 (S2 13), .int .i64 (S2 14), .int .i64 (S2 15)]] y (fun e w' => e = .returned (.bool (hitZ (S2 (16 + k * 6 + 1)) (S2 (16 + k * 6 + 2)) (S2 9) (S2 10))) ∧ Below y.heap.size y w')) := hide (fun y => g_hits _ _ _ _ _ _ _ _ _ _ _ _ _ y (hI.out _ o1) (hI.out _ (by omega)) (hI.out _ (by decide)) (hI.out _ (by decide)))
        have hbit0 : bits BinOp.and IntKind.i64 (S2 (16 + k * 6 + 4)) 1 = 0 := hbit
        clear hbit hob1 hwb hf3
        go_upto_region 7 with (fail)
        clear hbit0 c4
        have hHeld : (fun y : World => StAt y g S2) w3.drew := hs2.out
        refine h_begin 10 (fun y : World => StAt y g S2) rfl (by kernel_rfl) hHeld ?_
        first
          | (refine h_run (i := 0) (v := ?_) hHeld rfl (by kernel_rfl) (by kernel_rfl) (by kernel_rfl) ?_ ?_ ?_
             rotate_left
             · rfl
             · (intro x hSx; (try dsimp only at hSx); go_simp <;> with_reducible rfl)
             simp only [Act.put, List.setIfInBounds_toArray, List.set_cons_zero, List.set_cons_succ])
          | (refine h_skip (i := 0) hHeld rfl (by kernel_rfl) (by kernel_rfl) (by kernel_rfl) ?_ ?_
             · rfl
             simp only [Act.put, List.setIfInBounds_toArray, List.set_cons_zero, List.set_cons_succ])
        first
          | (refine h_run (i := 1) (v := ?_) hHeld rfl (by kernel_rfl) (by kernel_rfl) (by kernel_rfl) ?_ ?_ ?_
             rotate_left
             · rfl
             · (intro x hSx; (try dsimp only at hSx); go_simp <;> with_reducible rfl)
             simp only [Act.put, List.setIfInBounds_toArray, List.set_cons_zero, List.set_cons_succ])
          | (refine h_skip (i := 1) hHeld rfl (by kernel_rfl) (by kernel_rfl) (by kernel_rfl) ?_ ?_
             · rfl
             simp only [Act.put, List.setIfInBounds_toArray, List.set_cons_zero, List.set_cons_succ])
        refine h_run (i := 2) (v := .agg #[.bool (decide (S2 (16 + k * 6) ≠ 0)), .int .i64 (S2 (16 + k * 6 + 1)), .int .i64 (S2 (16 + k * 6 + 2)), .int .i64 (S2 (16 + k * 6 + 3)), .int .i64 (S2 (16 + k * 6 + 4)), .int .i64 (S2 (16 + k * 6 + 5))]) hHeld rfl (by kernel_rfl) (by kernel_rfl) (by kernel_rfl) rfl (fun y hy => exec_load (.tmp 61) _ rfl rfl (StAt.loadShot hy hk)) ?_
        simp only [Act.put, List.setIfInBounds_toArray, List.set_cons_zero, List.set_cons_succ]
        first
          | (refine h_run (i := 3) (v := ?_) hHeld rfl (by kernel_rfl) (by kernel_rfl) (by kernel_rfl) ?_ ?_ ?_
             rotate_left
             · rfl
             · (intro x hSx; (try dsimp only at hSx); go_simp <;> with_reducible rfl)
             simp only [Act.put, List.setIfInBounds_toArray, List.set_cons_zero, List.set_cons_succ])
          | (refine h_skip (i := 3) hHeld rfl (by kernel_rfl) (by kernel_rfl) (by kernel_rfl) ?_ ?_
             · rfl
             simp only [Act.put, List.setIfInBounds_toArray, List.set_cons_zero, List.set_cons_succ])
        first
          | (refine h_run (i := 4) (v := ?_) hHeld rfl (by kernel_rfl) (by kernel_rfl) (by kernel_rfl) ?_ ?_ ?_
             rotate_left
             · rfl
             · (intro x hSx; (try dsimp only at hSx); go_simp <;> with_reducible rfl)
             simp only [Act.put, List.setIfInBounds_toArray, List.set_cons_zero, List.set_cons_succ])
          | (refine h_skip (i := 4) hHeld rfl (by kernel_rfl) (by kernel_rfl) (by kernel_rfl) ?_ ?_
             · rfl
             simp only [Act.put, List.setIfInBounds_toArray, List.set_cons_zero, List.set_cons_succ])
        first
          | (refine h_run (i := 5) (v := ?_) hHeld rfl (by kernel_rfl) (by kernel_rfl) (by kernel_rfl) ?_ ?_ ?_
             rotate_left
             · rfl
             · (intro x hSx; (try dsimp only at hSx); go_simp <;> with_reducible rfl)
             simp only [Act.put, List.setIfInBounds_toArray, List.set_cons_zero, List.set_cons_succ])
          | (refine h_skip (i := 5) hHeld rfl (by kernel_rfl) (by kernel_rfl) (by kernel_rfl) ?_ ?_
             · rfl
             simp only [Act.put, List.setIfInBounds_toArray, List.set_cons_zero, List.set_cons_succ])
        first
          | (refine h_run (i := 6) (v := ?_) hHeld rfl (by kernel_rfl) (by kernel_rfl) (by kernel_rfl) ?_ ?_ ?_
             rotate_left
             · rfl
             · (intro x hSx; (try dsimp only at hSx); go_simp <;> with_reducible rfl)
             simp only [Act.put, List.setIfInBounds_toArray, List.set_cons_zero, List.set_cons_succ])
          | (refine h_skip (i := 6) hHeld rfl (by kernel_rfl) (by kernel_rfl) (by kernel_rfl) ?_ ?_
             · rfl
             simp only [Act.put, List.setIfInBounds_toArray, List.set_cons_zero, List.set_cons_succ])
        first
          | (refine h_run (i := 7) (v := ?_) hHeld rfl (by kernel_rfl) (by kernel_rfl) (by kernel_rfl) ?_ ?_ ?_
             rotate_left
             · rfl
             · (intro x hSx; (try dsimp only at hSx); go_simp <;> with_reducible rfl)
             simp only [Act.put, List.setIfInBounds_toArray, List.set_cons_zero, List.set_cons_succ])
          | (refine h_skip (i := 7) hHeld rfl (by kernel_rfl) (by kernel_rfl) (by kernel_rfl) ?_ ?_
             · rfl
             simp only [Act.put, List.setIfInBounds_toArray, List.set_cons_zero, List.set_cons_succ])
        refine h_run (i := 8) (v := .agg #[.int .i64 (S2 9), .int .i64 (S2 10), .int .i64 (S2 11), .int .i64 (S2 12), .int .i64 (S2 13), .int .i64 (S2 14), .int .i64 (S2 15)]) hHeld rfl (by kernel_rfl) (by kernel_rfl) (by kernel_rfl) rfl (fun y hy => exec_load (.tmp 67) _ rfl rfl (hl.out y hy)) ?_
        simp only [Act.put, List.setIfInBounds_toArray, List.set_cons_zero, List.set_cons_succ]
        refine h_call (i := 9) (fun y : World => StAt y g S2) (fun _ h => h) (hc.out _) rfl (by kernel_rfl) rfl ?_ ?_
        · go_simp <;> with_reducible rfl
        rintro _ w4 ⟨rfl, hB4⟩
        have hs4 : Hid (StAt w4 g S2) := hide ((hB4.block g hHeld.lt).trans hHeld)
        have hg4 := Lib.hid (only_trans (only_drew hg2.out) (only_of_below hB4 (some g)))
        have hq4 : Hid (w4.heap[w.heap.size]? = some (.cells #[.int .u16 a, .int .u16 b] 52 (0, 0))) := hide ((hB4.block _ (Array.getElem?_eq_some_iff.1 (show w3.drew.heap[w.heap.size]? = _ from hq2.out)).1).trans hq2.out)
        refine ⟨_, rfl, hs4.out, ?_⟩
        simp only [Act.put, List.setIfInBounds_toArray, List.set_cons_zero, List.set_cons_succ]
        refine h_done (by kernel_rfl) ?_
        clear hHeld hs2 hg2 hq2 hB4 hl hc ht hsg hgg
        generalize hitZ (S2 (16 + k * 6 + 1)) (S2 (16 + k * 6 + 2)) (S2 9) (S2 10) = hb at *
        cases hb
        · have e : Hid (GPost w g (fly3 k a b S2) (.returned (.tuple #[])) w4) := hide (by
            rw [hf4.out]; exact ⟨rfl, hs4.out, hg4.out⟩)
          go_wp2_with fail
          go_end0
          exact e.out
        · have ht := hs4.out.goneThere hk
          have hs5 := Lib.hid (hs4.out.gone hk)
          have hg5 := Lib.hid (only_setCells hg4.out goneA.toList (16 + k * 6))
          have hq5 : Hid ((w4.setCells g (16 + k * 6) goneA.toList).heap[w.heap.size]? = some (.cells #[.int .u16 a, .int .u16 b] 52 (0, 0))) := hide ((heap_setCells_other _ _ _ _ _ (Ne.symm hgq)).trans hq4.out)
          have ok5 := Lib.hid (ok2.out.gone (k := k))
          go_upto_region 9 with (with_reducible refine wpList_store_mid rfl 45 (.tmp 72) (.tmp 71) rfl g (16 + k * 6) goneA rfl rfl ht gone_info gone_one ?_)
          clear ht
          generalize World.setCells _ _ _ _ = w5 at *
          have cI := (cell_of_block hq5.out (i := 1)).trans rfl
          go_wp2_with fail
          refine (g_hurt g 1 (by decide) (gone k S2) b w5 hs5.out ok5.out).mono ?_
          rintro e w6 ⟨rfl, hs6, hg6⟩
          have e : Hid (GPost w g (fly3 k a b S2) (.returned (.tuple #[])) w6) := hide (by
            rw [hf4.out]; exact ⟨rfl, hs6, only_trans hg5.out hg6⟩)
          clear hs6 hg6
          go_wp2_with fail
          go_end0
          exact e.out
end Go.Proofs.Ytmfagdbocidfjaa

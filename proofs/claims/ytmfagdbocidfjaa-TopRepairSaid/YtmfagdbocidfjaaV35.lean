import Derived.Test.YtmfagdbocidfjaaV28
import Derived.Test.YtmfagdbocidfjaaV34
import Derived.Test.YtmfagdbocidfjaaV24
import Derived.Test.YtmfagdbocidfjaaV06
/- Whether shards may be. Conditions: what the blocks hold. -/
namespace Go.Proofs.Ytmfagdbocidfjaa
open Go.RowKit
attribute [local irreducible] rsF MAt BRow shC
/-- bools, of which those beyond what came are false -/
def SeenAt (q N : Nat) (I : Nat → Nat) (j : Nat) (y : World) : Prop := ∃ C, y.heap[q]? = some (.cells C 4 (0, 0)) ∧ C.size = N ∧ ∀ x, x < N → (∀ i, i < j → I i < x) → C[x]? = some (.bool false)
/-- the shards' rows -/
def rwC (G cc : Nat → Nat) : Nat → List Value
  | 0 => []
  | n + 1 => rwC G cc n ++ [.slice (some ⟨G n, 0, none⟩) 2 (cc n)]
set_option maxRecDepth 100000 in
theorem rwC_len (G cc : Nat → Nat) : ∀ n, (rwC G cc n).length = n
  | 0 => rfl
  | n + 1 => by unfold rwC; rw [List.length_append, rwC_len G cc n]; rfl
set_option maxRecDepth 100000 in
theorem rwC_one (G cc : Nat → Nat) : ∀ n, ∀ u ∈ rwC G cc n, u.oneCell' = true
  | 0, u, h => by cases h
  | n + 1, u, h => by
    unfold rwC at h
    rcases List.mem_append.1 h with h | h
    · exact rwC_one G cc n u h
    · rcases List.mem_cons.1 h with rfl | h
      · rfl
      · cases h
set_option maxRecDepth 100000 in
theorem rwC_get (G cc : Nat → Nat) : ∀ n j, j < n → (rwC G cc n)[j]? = some (.slice (some ⟨G j, 0, none⟩) 2 (cc j))
  | 0, j, h => by omega
  | n + 1, j, h => by
    have hl := rwC_len G cc n
    unfold rwC
    by_cases hj : j < n
    · rw [List.getElem?_append_left (by omega)]
      exact rwC_get G cc n j hj
    · obtain rfl : j = n := by omega
      rw [List.getElem?_append_right (by omega), hl, Nat.sub_self]
      rfl
set_option maxRecDepth 100000 in
theorem info_bs : (Try.prog.info? 71).map (fun i => (i.zero, i.size, i.bytes)) = some (some (.slice none 0 0), 1, 24) := by kernel_rfl
set_option maxRecDepth 100000 in
theorem app_one {w : World} {lo n : Nat} {v : Value} {xs : List Value} (h : VAt w lo 71 1 v n xs) (hlo : lo ≤ w.heap.size) (u : Value) (hu : u.oneCell' = true) (hn : n ≤ 1000) (ty : TypeId) :
    ∃ v' W', (Builtin.append_ #[68, 68] ty #[v, .slice (some ⟨w.heap.size, 0, none⟩) 1 1]).run Try.prog (w.alloc (.cells #[u] 71)) = .ok v' W' ∧ VAt W' lo 71 1 v' (n + 1) (xs ++ [u]) ∧ Below lo w W' ∧ (w.alloc (.cells #[u] 71)).grownBy W' v.ownBlock := by
  have hB : Below w.heap.size w (w.alloc (.cells #[u] 71)) := (Below.refl _ _).alloc (Nat.le_refl _) _
  have hblk : (w.alloc (.cells #[u] 71)).heap[w.heap.size]? = some (.cells #[u] 71 (0, 0)) := Array.getElem?_push_size (xs := w.heap)
  obtain ⟨v', W', hr, hv, hg, hf, _⟩ := v_app (P := Try.prog) (S := 68) (T := 71) Try.underlying68 info_bs rfl (by decide) (by decide) (h.below hB) (Nat.le_trans hlo hB.size) ⟨w.heap.size, 0, none⟩ 1 1 [u] rfl (fun j x hj => by
    rw [Addr.add_lit, Nat.zero_add, cell_of_block hblk]
    simpa using hj) (fun x hx => by rcases List.mem_cons.1 hx with rfl | h; exact hu; cases h) (by omega) ty
  exact ⟨v', W', hr, hv, below_grown (hB.mono hlo) hlo hg (fun p hp => (h.lt p hp).1), hg⟩
def Chk2Rel (w : World) (k : Nat) (G cc : Nat → Nat) (v8 v67 : Value) (wr : World) : Prop := ∃ j : Nat, j ≤ k ∧ v67 = .int .i64 (j : Nat) ∧ VAt wr w.heap.size 71 1 v8 j (rwC G cc j) ∧ Below w.heap.size w wr
set_option maxRecDepth 100000 in
theorem inc_lt {k : Nat} {I : Nat → Nat} (hi : ∀ j, j + 1 < k → I j < I (j + 1)) (a : Nat) : ∀ b, a < b → b < k → I a < I b
  | 0, h, _ => by omega
  | b + 1, h, hb => by
    by_cases e : a = b
    · subst e; exact hi a hb
    · exact Nat.lt_trans (inc_lt hi a b (by omega) (by omega)) (hi b hb)
def ChkRel (w : World) (k q N : Nat) (I : Nat → Nat) (v25 : Value) (wr : World) : Prop := ∃ j : Nat, j ≤ k ∧ v25 = .int .i64 (j : Nat) ∧ SeenAt q N I j wr ∧ Below w.heap.size w wr
set_option maxRecDepth 100000 in
theorem info_bool : (Try.prog.info? 4).map (fun i => (i.zero, i.size, i.bytes)) = some (some (.bool false), 1, 1) := by kernel_rfl
set_option maxRecDepth 100000 in
theorem mkbool (n : Nat) (hn : n ≤ 10000) (w : World) : (Instr.makeSlice 221 (.int .i64 (n : Int)) (.int .i64 (n : Int))).run Try.prog w = .ok (.slice (some ⟨w.heap.size, 0, none⟩) n n) (w.alloc (.cells (madeCells #[.bool false] n) 4)) := by
  obtain ⟨i0, hi, hz0, hz1, hz2⟩ := info_parts info_bool
  have h := run_make (P := Try.prog) w 221 4 i0 (.bool false) Try.underlying221 hi hz0 .i64 .i64 (n : Int) (n : Int) (by omega) (by omega) (by rw [hz2]; omega) (by omega)
  rw [Int.toNat_natCast, hz1, Nat.mul_one] at h
  exact h
set_option maxRecDepth 100000 in
set_option maxHeartbeats 4000000 in
theorem rs_check (c p k m b off cap lo : Nat) (I G cc : Nat → Nat) (V : Nat → Nat → Nat) (w : World) (hc : CodeAt w c p k m) (hs : SdAt w lo (.slice (some ⟨b, off, none⟩) k cap) k I G cc V) (h0 : 1 ≤ k) (hkm : k + m ≤ 255)
    (hI : ∀ j, j < k → I j < k + m) (hi : ∀ j, j + 1 < k → I j < I (j + 1)) :
    Calls Try.prog 108 #[.pointer (some ⟨c, 0, none⟩), .slice (some ⟨b, off, none⟩) k cap] w (CodeB 0 w) := by
  obtain ⟨g, hb, _⟩ := hc
  have hcl : c < w.heap.size := (Array.getElem?_eq_some_iff.1 hb).1
  have hcell : Hid (∀ y, Below w.heap.size w y → y.cell? ⟨c, 0, none⟩ = some (.int .i64 (k : Nat)) ∧ y.cell? ⟨c, 1, none⟩ = some (.int .i64 (m : Nat))) := hide (fun y hy => by
    have h1 := (hy.block c hcl).trans hb
    exact ⟨(cell_of_block h1).trans rfl, (cell_of_block h1).trans rfl⟩)
  have hsc : Hid (SdC b off k I G cc w) := hide hs.1.sdc
  have hrw := Lib.hid hs.2
  obtain ⟨N, hN⟩ : ∃ N, k + m = N := ⟨_, rfl⟩
  have hw : IntKind.i64.wrap ((k : Int) + (m : Int)) = (N : Int) := by rw [IntWalk.i64_in _ (by omega)]; omega
  have hmk : Hid (∀ y : World, (Instr.makeSlice 221 (.int .i64 (N : Int)) (.int .i64 (N : Int))).run Try.prog y = .ok (.slice (some ⟨y.heap.size, 0, none⟩) N N) (y.alloc (.cells (madeCells #[.bool false] N) 4))) := hide (fun y => mkbool N (by omega) y)
  have hIh : Hid (∀ j, j < k → I j < N) := hide (by rw [← hN]; exact hI)
  have hih := Lib.hid hi
  clear hb hs hI hi
  have hD : Hid (Below w.heap.size w w.drew) := hide (below_drewN (Below.refl _ _) 1)
  go_enter Try.func108, Try.ntmps108
  go_upto_region 1 with (fail)
  have hHeld := hcell.out _ hD.out
  refine h_begin 11 (fun y : World => y.cell? ⟨c, 0, none⟩ = some (.int .i64 (k : Nat)) ∧ y.cell? ⟨c, 1, none⟩ = some (.int .i64 (m : Nat))) rfl (by kernel_rfl) hHeld ?_
  first
    | (refine h_run (i := 0) (v := ?_) hHeld rfl (by kernel_rfl) (by kernel_rfl) (by kernel_rfl) ?_ ?_ ?_
       rotate_left
       · rfl
       · (intro x hSx; (try dsimp only at hSx); go_simp <;> with_reducible rfl)
       simp only [Act.put, List.setIfInBounds_toArray, List.set_cons_zero, List.set_cons_succ])
    | (refine h_skip (i := 0) hHeld rfl (by kernel_rfl) (by kernel_rfl) (by kernel_rfl) ?_ ?_
       · rfl
       simp only [Act.put, List.setIfInBounds_toArray, List.set_cons_zero, List.set_cons_succ])
  first
    | (refine h_run (i := 1) (v := ?_) hHeld rfl (by kernel_rfl) (by kernel_rfl) (by kernel_rfl) ?_ ?_ ?_
       rotate_left
       · rfl
       · (intro x hSx; (try dsimp only at hSx); go_simp <;> with_reducible rfl)
       simp only [Act.put, List.setIfInBounds_toArray, List.set_cons_zero, List.set_cons_succ])
    | (refine h_skip (i := 1) hHeld rfl (by kernel_rfl) (by kernel_rfl) (by kernel_rfl) ?_ ?_
       · rfl
       simp only [Act.put, List.setIfInBounds_toArray, List.set_cons_zero, List.set_cons_succ])
  first
    | (refine h_run (i := 2) (v := ?_) hHeld rfl (by kernel_rfl) (by kernel_rfl) (by kernel_rfl) ?_ ?_ ?_
       rotate_left
       · rfl
       · (intro x hSx; (try dsimp only at hSx); go_simp <;> with_reducible rfl)
       simp only [Act.put, List.setIfInBounds_toArray, List.set_cons_zero, List.set_cons_succ])
    | (refine h_skip (i := 2) hHeld rfl (by kernel_rfl) (by kernel_rfl) (by kernel_rfl) ?_ ?_
       · rfl
       simp only [Act.put, List.setIfInBounds_toArray, List.set_cons_zero, List.set_cons_succ])
  first
    | (refine h_run (i := 3) (v := ?_) hHeld rfl (by kernel_rfl) (by kernel_rfl) (by kernel_rfl) ?_ ?_ ?_
       rotate_left
       · rfl
       · (intro x hSx; (try dsimp only at hSx); go_simp <;> with_reducible rfl)
       simp only [Act.put, List.setIfInBounds_toArray, List.set_cons_zero, List.set_cons_succ])
    | (refine h_skip (i := 3) hHeld rfl (by kernel_rfl) (by kernel_rfl) (by kernel_rfl) ?_ ?_
       · rfl
       simp only [Act.put, List.setIfInBounds_toArray, List.set_cons_zero, List.set_cons_succ])
  first
    | (refine h_run (i := 4) (v := ?_) hHeld rfl (by kernel_rfl) (by kernel_rfl) (by kernel_rfl) ?_ ?_ ?_
       rotate_left
       · rfl
       · (intro x hSx; (try dsimp only at hSx); go_simp <;> with_reducible rfl)
       simp only [Act.put, List.setIfInBounds_toArray, List.set_cons_zero, List.set_cons_succ])
    | (refine h_skip (i := 4) hHeld rfl (by kernel_rfl) (by kernel_rfl) (by kernel_rfl) ?_ ?_
       · rfl
       simp only [Act.put, List.setIfInBounds_toArray, List.set_cons_zero, List.set_cons_succ])
  first
    | (refine h_run (i := 5) (v := ?_) hHeld rfl (by kernel_rfl) (by kernel_rfl) (by kernel_rfl) ?_ ?_ ?_
       rotate_left
       · rfl
       · (intro x hSx; (try dsimp only at hSx); go_simp <;> with_reducible rfl)
       simp only [Act.put, List.setIfInBounds_toArray, List.set_cons_zero, List.set_cons_succ])
    | (refine h_skip (i := 5) hHeld rfl (by kernel_rfl) (by kernel_rfl) (by kernel_rfl) ?_ ?_
       · rfl
       simp only [Act.put, List.setIfInBounds_toArray, List.set_cons_zero, List.set_cons_succ])
  first
    | (refine h_run (i := 6) (v := ?_) hHeld rfl (by kernel_rfl) (by kernel_rfl) (by kernel_rfl) ?_ ?_ ?_
       rotate_left
       · rfl
       · (intro x hSx; (try dsimp only at hSx); go_simp <;> with_reducible rfl)
       simp only [Act.put, List.setIfInBounds_toArray, List.set_cons_zero, List.set_cons_succ])
    | (refine h_skip (i := 6) hHeld rfl (by kernel_rfl) (by kernel_rfl) (by kernel_rfl) ?_ ?_
       · rfl
       simp only [Act.put, List.setIfInBounds_toArray, List.set_cons_zero, List.set_cons_succ])
  first
    | (refine h_run (i := 7) (v := ?_) hHeld rfl (by kernel_rfl) (by kernel_rfl) (by kernel_rfl) ?_ ?_ ?_
       rotate_left
       · rfl
       · (intro x hSx; (try dsimp only at hSx); go_simp <;> with_reducible rfl)
       simp only [Act.put, List.setIfInBounds_toArray, List.set_cons_zero, List.set_cons_succ])
    | (refine h_skip (i := 7) hHeld rfl (by kernel_rfl) (by kernel_rfl) (by kernel_rfl) ?_ ?_
       · rfl
       simp only [Act.put, List.setIfInBounds_toArray, List.set_cons_zero, List.set_cons_succ])
  first
    | (refine h_run (i := 8) (v := ?_) hHeld rfl (by kernel_rfl) (by kernel_rfl) (by kernel_rfl) ?_ ?_ ?_
       rotate_left
       · rfl
       · (intro x hSx; (try dsimp only at hSx); go_simp <;> with_reducible rfl)
       simp only [Act.put, List.setIfInBounds_toArray, List.set_cons_zero, List.set_cons_succ])
    | (refine h_skip (i := 8) hHeld rfl (by kernel_rfl) (by kernel_rfl) (by kernel_rfl) ?_ ?_
       · rfl
       simp only [Act.put, List.setIfInBounds_toArray, List.set_cons_zero, List.set_cons_succ])
  clear hHeld
  have hBa : Hid (Below w.heap.size w (w.drew.alloc (.cells (madeCells #[.bool false] N) 4))) := hide (hD.out.alloc hD.out.size _)
  refine h_value (i := 9) (v := .slice (some ⟨w.heap.size, 0, none⟩) N N) (w' := w.drew.alloc (.cells (madeCells #[.bool false] N) 4)) (fun y : World => y.cell? ⟨c, 0, none⟩ = some (.int .i64 (k : Nat)) ∧ y.cell? ⟨c, 1, none⟩ = some (.int .i64 (m : Nat))) (fun _ h => h) rfl (by kernel_rfl) rfl ?_ (hcell.out _ hBa.out) ?_
  · have := hmk.out w.drew
    go_simp <;> with_reducible rfl
  try simp only [Act.put, List.setIfInBounds_toArray, List.set_cons_zero, List.set_cons_succ]
  have hHeld := hcell.out _ hBa.out
  first
    | (refine h_run (i := 10) (v := ?_) hHeld rfl (by kernel_rfl) (by kernel_rfl) (by kernel_rfl) ?_ ?_ ?_
       rotate_left
       · rfl
       · (intro x hSx; (try dsimp only at hSx); go_simp <;> with_reducible rfl)
       simp only [Act.put, List.setIfInBounds_toArray, List.set_cons_zero, List.set_cons_succ])
    | (refine h_skip (i := 10) hHeld rfl (by kernel_rfl) (by kernel_rfl) (by kernel_rfl) ?_ ?_
       · rfl
       simp only [Act.put, List.setIfInBounds_toArray, List.set_cons_zero, List.set_cons_succ])
  clear hHeld hmk
  refine h_done (by kernel_rfl) ?_
  try simp only [Act.put, List.setIfInBounds_toArray, List.set_cons_zero, List.set_cons_succ]
  have hse : Hid (SeenAt w.heap.size N I 0 (w.drew.alloc (.cells (madeCells #[.bool false] N) 4))) := hide ⟨_, Array.getElem?_push_size (xs := w.drew.heap), by simp [size_madeCells], fun x hx _ => by
    rw [← Array.getElem?_toList, toList_madeCells_one]
    simp [hx]⟩
  obtain ⟨q, hq⟩ : ∃ q, w.heap.size = q := ⟨_, rfl⟩
  have hqw : Hid (w.heap.size ≤ q) := hide (by omega)
  rw [hq] at hse ⊢
  clear hD hq
  generalize World.alloc w.drew _ = w1 at *
  go_upto_region 3 with (fail)
  go_loopw [25] (fun v25 wr => ChkRel w k q N I v25 wr) (fun v25 _ => k - (intOf v25).toNat)
  case atStart => exact ⟨0, by omega, rfl, hse.out, hBa.out⟩
  case round =>
    clear hse hBa
    obtain ⟨j, hj, rfl, hse, hB⟩ := hrel
    have hBh := Lib.hid hB
    have hseh := Lib.hid hse
    clear hB hse
    by_cases hlt : j < k
    · have i1 : (j : Int) < (k : Int) := by omega
      have hce := (hsc.out.below hBh.out) j hlt
      obtain ⟨e0, e1⟩ := hce
      have hq2 : Hid (q < wr.heap.size) := hide (by obtain ⟨C, h1, _⟩ := hseh.out; exact (Array.getElem?_eq_some_iff.1 h1).1)
      go_upto_region 5 with (fail)
      obtain ⟨W, hW⟩ : ∃ W, wr.alloc (.cells #[.int .i64 (I j : Nat), .slice (some ⟨G j, 0, none⟩) 2 (cc j)] 139) = W := ⟨_, rfl⟩
      have hBW : Hid (Below w.heap.size w W) := hide (hW ▸ hBh.out.alloc hBh.out.size _)
      have hblk : W.heap[wr.heap.size]? = some (.cells #[.int .i64 (I j : Nat), .slice (some ⟨G j, 0, none⟩) 2 (cc j)] 139 (0, 0)) := by rw [← hW]; exact Array.getElem?_push_size (xs := wr.heap)
      have b0 := (cell_of_block hblk).trans (show #[Value.int .i64 (I j : Nat), .slice (some ⟨G j, 0, none⟩) 2 (cc j)][0]? = some (.int .i64 (I j : Nat)) from rfl)
      have hseW : Hid (SeenAt q N I j W) := hide (by
        obtain ⟨C, h1, h2, h3⟩ := hseh.out
        refine ⟨C, ?_, h2, h3⟩
        have hB1 : Below wr.heap.size wr W := hW ▸ (Below.refl _ _).alloc (Nat.le_refl _) _
        exact (hB1.block q hq2.out).trans h1)
      have hlj := hIh.out j hlt
      have s0 : W.cell? ⟨q, I j, none⟩ = some (.bool false) := by
        obtain ⟨C, h1, h2, h3⟩ := hseW.out
        exact (cell_of_block h1).trans (h3 (I j) hlj (fun i hi => inc_lt hih.out i j hi hlt))
      have sf : W.frozen? ⟨q, I j, none⟩ = false := by
        obtain ⟨C, h1, h2, h3⟩ := hseW.out
        exact frozen_of_row W q (I j) _ _ h1
      obtain ⟨z0, z1⟩ := hcell.out W hBW.out
      have g0 : decide ((I j : Int) < 0) = false := decide_eq_false (by omega)
      have g1 : decide ((N : Int) ≤ (I j : Int)) = false := decide_eq_false (by omega)
      have g2 : decide (N ≤ I j) = false := decide_eq_false (by omega)
      have g3 : (I j : Int) < (N : Int) := by omega
      have hne : Hid (wr.heap.size ≠ q) := hide (by have := hq2.out; omega)
      have hWh := Lib.hid hW
      clear hblk hW e0 e1
      rw [hWh.out]
      go_quiet (fail)
      have b0' : (W.drewN nq).cell? ⟨wr.heap.size, 0, none⟩ = some (.int .i64 (I j : Nat)) := b0
      have s0' : (W.drewN nq).cell? ⟨q, I j, none⟩ = some (.bool false) := s0
      have sf' : (W.drewN nq).frozen? ⟨q, I j, none⟩ = false := sf
      have hseY : Hid (SeenAt q N I j (W.drewN nq)) := hide hseW.out
      have hBY : Hid (Below w.heap.size w (W.drewN nq)) := hide (below_drewN hBW.out nq)
      clear b0 s0 sf hseW hBW z0 z1 hWh
      generalize W.drewN nq = Y at *
      have hR : Hid (ChkRel w k q N I (.int .i64 ((j + 1 : Nat) : Int)) (Y.setCell ⟨q, I j, none⟩ (.bool true))) := hide ⟨j + 1, by omega, rfl, by
        obtain ⟨C, h1, h2, h3⟩ := hseY.out
        refine ⟨_, blk_set h1 (I j) _, by simp [h2], fun x hx hall => ?_⟩
        have hx1 := hall j (by omega)
        rw [Array.getElem?_setIfInBounds, if_neg (by omega)]
        exact h3 x hx (fun i hi => hall i (by omega)), hBY.out.setCell (p := ⟨q, I j, none⟩) hqw.out _⟩
      have iw2 : IntKind.i64.wrap ((j : Int) + 1) = ((j + 1 : Nat) : Int) := by rw [IntWalk.i64_in _ (by omega)]; omega
      go_wp2_with fail
      refine ⟨?_, ?_⟩
      rotate_left
      · simp [intOf]; omega
      first
        | exact hR.out
        | (repeat (apply Exists.intro)
           exact ⟨hR.out, rfl⟩)
    · obtain rfl : j = k := by omega
      clear hseh
      have i1 : decide ((j : Int) < (j : Int)) = false := by simp
      obtain ⟨z0, z1⟩ := hcell.out wr hBh.out
      go_upto_region 13 with (fail)
      clear z0 z1
      go_loopw [8, 67] (fun v8 v67 wr => Chk2Rel w j G cc v8 v67 wr) (fun _ v67 _ => j - (intOf v67).toNat)
      case atStart => exact ⟨0, by omega, rfl, VAt.nil _ _ _ _, hBh.out⟩
      case round =>
        clear hBh
        obtain ⟨i, hi, rfl, hv, hB⟩ := hrel
        have hBh := Lib.hid hB
        have hvh := Lib.hid hv
        clear hB hv
        by_cases hlt : i < j
        · have i1 : (i : Int) < (j : Int) := by omega
          obtain ⟨e0, e1⟩ := (hsc.out.below hBh.out) i hlt
          go_upto_region 15 with (fail)
          obtain ⟨W, hW⟩ : ∃ W, wr.alloc (.cells #[.int .i64 (I i : Nat), .slice (some ⟨G i, 0, none⟩) 2 (cc i)] 139) = W := ⟨_, rfl⟩
          have hBW : Hid (Below w.heap.size w W) := hide (hW ▸ hBh.out.alloc hBh.out.size _)
          have hblk : W.heap[wr.heap.size]? = some (.cells #[.int .i64 (I i : Nat), .slice (some ⟨G i, 0, none⟩) 2 (cc i)] 139 (0, 0)) := by rw [← hW]; exact Array.getElem?_push_size (xs := wr.heap)
          have b1 := (cell_of_block hblk).trans (show #[Value.int .i64 (I i : Nat), .slice (some ⟨G i, 0, none⟩) 2 (cc i)][1]? = some (.slice (some ⟨G i, 0, none⟩) 2 (cc i)) from rfl)
          have hvW := hvh.out.below (show Below wr.heap.size wr W from hW ▸ (Below.refl _ _).alloc (Nat.le_refl _) _)
          obtain ⟨v9, W9, hr9, hv9, hB9, _⟩ := app_one hvW hBW.out.size (.slice (some ⟨G i, 0, none⟩) 2 (cc i)) rfl (by omega) 68
          have iw2 : IntKind.i64.wrap ((i : Int) + 1) = ((i + 1 : Nat) : Int) := by rw [IntWalk.i64_in _ (by omega)]; omega
          have hR : Hid (Chk2Rel w j G cc v9 (.int .i64 ((i + 1 : Nat) : Int)) W9) := hide ⟨i + 1, by omega, rfl, hv9, hBW.out.trans hB9⟩
          have hr9h := Lib.hid hr9
          have hWh := Lib.hid hW
          clear hblk hW e0 e1 hvW hr9 hv9 hB9 hvh
          rw [hWh.out]
          go_wp2_with (at_builtin; refine wpList_app_runV rfl (.tmp 71) (.tmp 74) _ _ rfl rfl rfl hr9h.out ?_)
          refine ⟨?_, ?_⟩
          rotate_left
          · simp [intOf]; omega
          first
            | exact hR.out
            | (repeat (apply Exists.intro)
               exact ⟨hR.out, rfl⟩)
        · obtain rfl : i = j := by omega
          have i1 : decide ((i : Int) < (i : Int)) = false := by simp
          obtain ⟨b9, o9, c9, rfl, _⟩ := hvh.out.ptr (by omega)
          have hlen := Lib.hid (s_length 2 i (some ⟨b9, o9, none⟩) c9 wr (fun x hx => ⟨b9, o9, some ⟨G x, 0, none⟩, cc x, rfl, hvh.out.cells rfl x _ (rwC_get G cc i x hx)⟩) (by omega) (by omega) (by omega))
          clear hvh
          go_wp2_with fail
          refine hlen.out.mono ?_
          rintro _ w9 ⟨rfl, rfl⟩
          go_wp2_with fail
          go_ret
          exact ⟨rfl, hBh.out⟩
end Go.Proofs.Ytmfagdbocidfjaa

/- A drawn region with a call and memory made beside it, either of which may come first. Lemmas alone. -/
namespace Go.Proofs.Ytmfagdbocidfjaa
open Go.RowKit
section
variable {P : Program} {ops : Array Oper} {Q : Exit → Act → World → Prop} {S : World → Prop}
set_option maxRecDepth 100000 in
theorem h_ca {i j : Nat} {oi oj : Oper} {f : FuncId} {args : Array Value} {R : Ending → World → Prop} {fuel : Nat} {listed : Array Bool} {a : Act} {w w' : World} {p : Value} (l0 : List Nat)
    (hc : Calls P f args w R) (hi0 : opAt ops.toList i = some oi) (hj0 : opAt ops.toList j = some oj) (hr : Region.ready .any ops listed = l0) (hl : l0 ≠ [] ∧ ∀ m ∈ l0, m = i ∨ m = j)
    (wi : Region.wanted oi (yielded ops a.tmps) = true) (wj : Region.wanted oj (yielded ops a.tmps) = true)
    (ei : (execOp a.eval oi).run P w = .ok (.enter f args) w) (ej : (execOp a.eval oj).run P w = .ok (.value p) w') (hS : S w')
    (h1 : ∀ e x, R e x → ∃ v, e = .returned v ∧ S x ∧ wpAnyH P .any ops (NoPanic Q) S fuel (listed.setIfInBounds i true) (a.put oi.dst v) x)
    (h2 : wpAnyH P .any ops (NoPanic Q) S fuel (listed.setIfInBounds j true) (a.put oj.dst p) w') : wpAnyH P .any ops (NoPanic Q) S (fuel + 1) listed a w := by
  refine wpAnyH_all hr hl.1 (fun m hm => ?_)
  rcases hl.2 m hm with rfl | rfl
  · refine wpOp_step (opAt_of hi0) (fun K' hK => ?_)
    rw [if_pos wi]
    unfold Oper.wp
    rw [ei]
    exact hc.mono fun e x hR => by
      obtain ⟨v, rfl, hS', hx⟩ := h1 e x hR
      exact hK _ _ ⟨hS', hx⟩
  · refine wpOp_step (opAt_of hj0) (fun K' hK => ?_)
    rw [if_pos wj]
    unfold Oper.wp
    rw [ej]
    exact hK _ _ ⟨hS, h2⟩
end
end Go.Proofs.Ytmfagdbocidfjaa

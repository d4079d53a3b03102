import Derived.Test.YtmfagdbocidfjaaU28
import Derived.Test.YtmfagdbocidfjaaU17
import Derived.Test.YtmfagdbocidfjaaU23
import Derived.Test.YtmfagdbocidfjaaU16
import Derived.ChangeKeysEq
import Derived.Laws.StructEq
import Derived.Test.YtmfagdbocidfjaaU01
import Derived.Deep.Slices
import Derived.Deep.Fields
import Derived.ChangeSame
/- No engine, as it may not wait so long. -/
namespace Go.Proofs.Ytmfagdbocidfjaa
open Go.RowKit
attribute [local irreducible] stA enP newF nBuild blk wLoad wLoadRes loadAns wStore wStoreRes storeAns Plain
attribute [local go_sem ↓] nBuild_of ld_st0 sto_st0
attribute [local go_sem] nBuild_2
set_option maxRecDepth 100000 in
set_option maxHeartbeats 4000000 in
theorem e_new_del (seed : Int) (loc : Nat) (del : Int) (ah : Nat) (w : World) (hl : loc < 2) (hd : del < 0 ∨ 8 < del) (ha : 1 ≤ ah ∧ ah ≤ 16) :
    Calls Try.prog 6 #[.agg #[.int .u32 seed, .int .i64 (loc : Nat), .int .i64 del, .int .i64 (ah : Nat)]] w (NoPost w) := by
  have hg0 : Hid ((w.alloc (.cells #[.int .u32 seed, .int .i64 (loc : Nat), .int .i64 del, .int .i64 (ah : Nat)] 24)).heap[w.heap.size]? = some (.cells #[.int .u32 seed, .int .i64 (loc : Nat), .int .i64 del, .int .i64 (ah : Nat)] 24 (0, 0))) := hide (last0 _ _ _ rfl)
  have hB0 : Hid (Below w.heap.size w (w.alloc (.cells #[.int .u32 seed, .int .i64 (loc : Nat), .int .i64 del, .int .i64 (ah : Nat)] 24))) := hide ((Below.refl _ _).alloc (Nat.le_refl _) _)
  have d1 : decide ((loc : Int) < 0) = false := decide_eq_false (by omega)
  have d2 : decide ((1 : Int) < (loc : Int)) = false := decide_eq_false (by omega)
  have d22 : decide (1 < loc) = false := decide_eq_false (by omega)
  have d3 : decide ((ah : Int) < 1) = false := decide_eq_false (by omega)
  have d33 : decide (ah < 1) = false := decide_eq_false (by omega)
  have d4 : decide ((16 : Int) < (ah : Int)) = false := decide_eq_false (by omega)
  have d44 : decide (16 < ah) = false := decide_eq_false (by omega)
  have hdh := Lib.hid hd
  clear hl hd ha
  go_enter Try.func6, Try.ntmps6
  go_upto_region 1 with (fail)
  generalize World.alloc w _ = w0 at *
  obtain ⟨g, hg⟩ : ∃ g, w.heap.size = g := ⟨_, rfl⟩
  have hgh := Lib.hid hg
  rw [hg] at hg0 ⊢
  clear hg
  have c0 : w0.cell? ⟨g, 0, none⟩ = some (.int .u32 seed) := (cell_of_block hg0.out).trans rfl
  have c1 : w0.cell? ⟨g, 1, none⟩ = some (.int .i64 (loc : Nat)) := (cell_of_block hg0.out).trans rfl
  have c2 : w0.cell? ⟨g, 2, none⟩ = some (.int .i64 del) := (cell_of_block hg0.out).trans rfl
  have c3 : w0.cell? ⟨g, 3, none⟩ = some (.int .i64 (ah : Nat)) := (cell_of_block hg0.out).trans rfl
  go_upto_region 3 with (fail)
  have hHeld : (fun y : World => y.cell? ⟨g, 0, none⟩ = some (.int .u32 seed) ∧ y.cell? ⟨g, 1, none⟩ = some (.int .i64 (loc : Nat)) ∧ y.cell? ⟨g, 2, none⟩ = some (.int .i64 del) ∧ y.cell? ⟨g, 3, none⟩ = some (.int .i64 (ah : Nat))) w0.drew := ⟨c0, c1, c2, c3⟩
  refine h_begin 7 (fun y : World => y.cell? ⟨g, 0, none⟩ = some (.int .u32 seed) ∧ y.cell? ⟨g, 1, none⟩ = some (.int .i64 (loc : Nat)) ∧ y.cell? ⟨g, 2, none⟩ = some (.int .i64 del) ∧ y.cell? ⟨g, 3, none⟩ = some (.int .i64 (ah : Nat))) rfl (by kernel_rfl) hHeld ?_
  have hg1 : Hid (w0.drew.heap[g]? = some (.cells #[.int .u32 seed, .int .i64 (loc : Nat), .int .i64 del, .int .i64 (ah : Nat)] 24 (0, 0))) := hide hg0.out
  have hB1 : Hid (Below w.heap.size w w0.drew) := hide (below_drewN hB0.out 1)
  clear c0 c1 c2 c3 hg0 hB0 d1 d2 d22 d3 d33 d4 d44
  generalize w0.drew = w1 at *
  first
    | (refine h_run (i := 0) (v := ?_) hHeld rfl (by kernel_rfl) (by kernel_rfl) (by kernel_rfl) ?_ ?_ ?_
       rotate_left
       · rfl
       · (intro x hSx; (try dsimp only at hSx); go_simp <;> with_reducible rfl)
       simp only [Act.put, List.setIfInBounds_toArray, List.set_cons_zero, List.set_cons_succ])
    | (refine h_skip (i := 0) hHeld rfl (by kernel_rfl) (by kernel_rfl) (by kernel_rfl) ?_ ?_
       · rfl
       simp only [Act.put, List.setIfInBounds_toArray, List.set_cons_zero, List.set_cons_succ])
  first
    | (refine h_run (i := 1) (v := ?_) hHeld rfl (by kernel_rfl) (by kernel_rfl) (by kernel_rfl) ?_ ?_ ?_
       rotate_left
       · rfl
       · (intro x hSx; (try dsimp only at hSx); go_simp <;> with_reducible rfl)
       simp only [Act.put, List.setIfInBounds_toArray, List.set_cons_zero, List.set_cons_succ])
    | (refine h_skip (i := 1) hHeld rfl (by kernel_rfl) (by kernel_rfl) (by kernel_rfl) ?_ ?_
       · rfl
       simp only [Act.put, List.setIfInBounds_toArray, List.set_cons_zero, List.set_cons_succ])
  first
    | (refine h_run (i := 2) (v := ?_) hHeld rfl (by kernel_rfl) (by kernel_rfl) (by kernel_rfl) ?_ ?_ ?_
       rotate_left
       · rfl
       · (intro x hSx; (try dsimp only at hSx); go_simp <;> with_reducible rfl)
       simp only [Act.put, List.setIfInBounds_toArray, List.set_cons_zero, List.set_cons_succ])
    | (refine h_skip (i := 2) hHeld rfl (by kernel_rfl) (by kernel_rfl) (by kernel_rfl) ?_ ?_
       · rfl
       simp only [Act.put, List.setIfInBounds_toArray, List.set_cons_zero, List.set_cons_succ])
  refine h_call (i := 3) (fun y : World => y.cell? ⟨g, 0, none⟩ = some (.int .u32 seed) ∧ y.cell? ⟨g, 1, none⟩ = some (.int .i64 (loc : Nat)) ∧ y.cell? ⟨g, 2, none⟩ = some (.int .i64 del) ∧ y.cell? ⟨g, 3, none⟩ = some (.int .i64 (ah : Nat))) (fun _ h => h) (g_new seed w1) rfl (by kernel_rfl) rfl ?_ ?_
  · go_simp <;> with_reducible rfl
  rintro _ w2 ⟨rfl, hB2⟩
  have hg2 : Hid (w2.heap[g]? = some (.cells #[.int .u32 seed, .int .i64 (loc : Nat), .int .i64 del, .int .i64 (ah : Nat)] 24 (0, 0))) := hide ((hB2.block g (Array.getElem?_eq_some_iff.1 hg1.out).1).trans hg1.out)
  have hB3 : Hid (Below w.heap.size w w2) := hide (hB1.out.trans (hB2.mono hB1.out.size))
  have hHeld : (fun y : World => y.cell? ⟨g, 0, none⟩ = some (.int .u32 seed) ∧ y.cell? ⟨g, 1, none⟩ = some (.int .i64 (loc : Nat)) ∧ y.cell? ⟨g, 2, none⟩ = some (.int .i64 del) ∧ y.cell? ⟨g, 3, none⟩ = some (.int .i64 (ah : Nat))) w2 := ⟨(cell_of_block hg2.out).trans rfl, (cell_of_block hg2.out).trans rfl, (cell_of_block hg2.out).trans rfl, (cell_of_block hg2.out).trans rfl⟩
  refine ⟨_, rfl, hHeld, ?_⟩
  try simp only [Act.put, List.setIfInBounds_toArray, List.set_cons_zero, List.set_cons_succ]
  first
    | (refine h_run (i := 4) (v := ?_) hHeld rfl (by kernel_rfl) (by kernel_rfl) (by kernel_rfl) ?_ ?_ ?_
       rotate_left
       · rfl
       · (intro x hSx; (try dsimp only at hSx); go_simp <;> with_reducible rfl)
       simp only [Act.put, List.setIfInBounds_toArray, List.set_cons_zero, List.set_cons_succ])
    | (refine h_skip (i := 4) hHeld rfl (by kernel_rfl) (by kernel_rfl) (by kernel_rfl) ?_ ?_
       · rfl
       simp only [Act.put, List.setIfInBounds_toArray, List.set_cons_zero, List.set_cons_succ])
  have hx3 : Hid ((w2.alloc (.cells (enP seed (loc : Nat) del (ah : Nat) (.pointer none) (.pointer none) (.pointer none) (newF seed)) 86)).heap[w2.heap.size]? = some (.cells (enP seed (loc : Nat) del (ah : Nat) (.pointer none) (.pointer none) (.pointer none) (newF seed)) 86 (0, 0))) := hide (last0 _ _ _ rfl)
  have hBa : Below w2.heap.size w2 (w2.alloc (.cells (enP seed (loc : Nat) del (ah : Nat) (.pointer none) (.pointer none) (.pointer none) (newF seed)) 86)) := (Below.refl _ _).alloc (Nat.le_refl _) _
  have hg3 : Hid ((w2.alloc (.cells (enP seed (loc : Nat) del (ah : Nat) (.pointer none) (.pointer none) (.pointer none) (newF seed)) 86)).heap[g]? = some (.cells #[.int .u32 seed, .int .i64 (loc : Nat), .int .i64 del, .int .i64 (ah : Nat)] 24 (0, 0))) := hide ((hBa.block g (Array.getElem?_eq_some_iff.1 hg2.out).1).trans hg2.out)
  have hB4 : Hid (Below w.heap.size w (w2.alloc (.cells (enP seed (loc : Nat) del (ah : Nat) (.pointer none) (.pointer none) (.pointer none) (newF seed)) 86))) := hide (hB3.out.trans (hBa.mono hB3.out.size))
  have hgx : Hid (w.heap.size ≤ w2.heap.size) := hide hB3.out.size
  have hHeld : (fun y : World => y.cell? ⟨g, 0, none⟩ = some (.int .u32 seed) ∧ y.cell? ⟨g, 1, none⟩ = some (.int .i64 (loc : Nat)) ∧ y.cell? ⟨g, 2, none⟩ = some (.int .i64 del) ∧ y.cell? ⟨g, 3, none⟩ = some (.int .i64 (ah : Nat))) (w2.alloc (.cells (enP seed (loc : Nat) del (ah : Nat) (.pointer none) (.pointer none) (.pointer none) (newF seed)) 86)) := ⟨(cell_of_block hg3.out).trans rfl, (cell_of_block hg3.out).trans rfl, (cell_of_block hg3.out).trans rfl, (cell_of_block hg3.out).trans rfl⟩
  refine h_value (i := 5) (v := .pointer (some ⟨w2.heap.size, 0, none⟩)) (w' := w2.alloc (.cells (enP seed (loc : Nat) del (ah : Nat) (.pointer none) (.pointer none) (.pointer none) (newF seed)) 86)) (fun y : World => y.cell? ⟨g, 0, none⟩ = some (.int .u32 seed) ∧ y.cell? ⟨g, 1, none⟩ = some (.int .i64 (loc : Nat)) ∧ y.cell? ⟨g, 2, none⟩ = some (.int .i64 del) ∧ y.cell? ⟨g, 3, none⟩ = some (.int .i64 (ah : Nat))) (fun _ h => h) rfl (by kernel_rfl) rfl ?_ hHeld ?_
  · go_simp
  try simp only [Act.put, List.setIfInBounds_toArray, List.set_cons_zero, List.set_cons_succ]
  first
    | (refine h_run (i := 6) (v := ?_) hHeld rfl (by kernel_rfl) (by kernel_rfl) (by kernel_rfl) ?_ ?_ ?_
       rotate_left
       · rfl
       · (intro x hSx; (try dsimp only at hSx); go_simp <;> with_reducible rfl)
       simp only [Act.put, List.setIfInBounds_toArray, List.set_cons_zero, List.set_cons_succ])
    | (refine h_skip (i := 6) hHeld rfl (by kernel_rfl) (by kernel_rfl) (by kernel_rfl) ?_ ?_
       · rfl
       simp only [Act.put, List.setIfInBounds_toArray, List.set_cons_zero, List.set_cons_succ])
  refine h_done (by kernel_rfl) ?_
  try simp only [Act.put, List.setIfInBounds_toArray, List.set_cons_zero, List.set_cons_succ]
  clear hHeld hBa hg1 hB1 hg2 hB3 hB2
  obtain ⟨x, hx⟩ : ∃ x, w2.heap.size = x := ⟨_, rfl⟩
  generalize World.alloc w2 _ = w3 at *
  rw [hx] at hx3 hgx ⊢
  clear hx
  go_upto_region 5 with (fail)
  go_loopw [32] (fun v32 wr => v32 = .int .i64 0 ∧ Hid (w3 = wr)) (fun v32 _ => 2 - (intOf v32).toNat)
  case atStart => exact ⟨rfl, hide rfl⟩
  case round =>
    obtain ⟨rfl, hw⟩ := hrel
    have c2 : wr.cell? ⟨g, 2, none⟩ = some (.int .i64 del) := by rw [← hw.out]; exact (cell_of_block hg3.out).trans rfl
    have hend : Hid (NoPost w (.returned (.tuple #[.pointer none, .int .i64 1])) wr) := hide ⟨rfl, by rw [← hw.out]; exact hB4.out⟩
    have kq := Lib.hid (qu_new_no del wr hdh.out)
    go_wp2_with fail
    refine kq.out.mono ?_
    rintro e w4 ⟨rfl, rfl⟩
    go_wp2_with fail
    go_ret2
    exact hend.out
end Go.Proofs.Ytmfagdbocidfjaa

/- What the law hangs on is there. -/
namespace Go.Proofs.Ytmfagdbocidfjaa
open Go.RowKit
def sField (x : Value) (i : Nat) : Sem Value := Instr.field 49 x i
set_option maxRecDepth 100000 in
theorem fld_st0 (x : Value) (i : Nat) : Instr.field 49 x i = sField x i := by unfold sField; rfl
set_option maxRecDepth 100000 in
theorem fld_st (S : Nat → Int) (w : World) : (sField (.agg (stA S)) 0).run Try.prog w = .ok (.int .i64 (S 0)) w := by kernel_rfl
set_option maxRecDepth 100000 in
theorem new7 : newF 7 6 = 100 ∧ newF 7 2 < newF 7 9 := ⟨by kernel_rfl, by decide⟩
attribute [local irreducible] stA newF stepF sField blk wLoad wLoadRes loadAns wStore wStoreRes storeAns Plain
attribute [local go_sem ↓] ld_st0 sto_st0 fld_st0
attribute [local go_sem] fld_st ld_st loadAns_some sto_st stA_size st_plain storeAns_some blk_alloc_if blk_setRow_if blk_drew_at blk_drewN_at rowPut_some
set_option maxRecDepth 100000 in
set_option maxHeartbeats 4000000 in
theorem tb_awake (w : World) : Calls Try.prog 5 #[] w (fun e w' => e = .returned (.bool true) ∧ Below w.heap.size w w') := by
  have hz2 := zeroState
  have hn := Lib.hid (g_new 7 w)
  have hfr : Hid (stepF 0 0 (newF 7) 0 = 1) := hide (by rw [step_frame, newF_frame]; unfold wrap64; omega)
  have hst := Lib.hid (fun W => g_step (newF 7) 0 0 W (GOk.new (by decide)))
  have h7 := Lib.hid new7
  go_enter Try.func5, Try.ntmps5
  go_wp2_with fail
  refine hn.out.mono ?_
  rintro e w1 ⟨rfl, hB1⟩
  have hB1h := Lib.hid hB1
  clear hB1 hn
  have hb0 : blk (w1.alloc (.cells (stA fun _ => 0) 49)) w1.heap.size = some (.cells (stA fun _ => 0) 49 (0, 0)) := blk_of (last0 _ _ _ rfl)
  have hs3 : Hid (StAt ((w1.alloc (.cells (stA fun _ => 0) 49)).setRow w1.heap.size (stA (newF 7))) w1.heap.size (newF 7)) := hide (setRow_heap _ _ _ _ _ _ (blk_heap hb0))
  have hB3 : Hid (Below w.heap.size w ((w1.alloc (.cells (stA fun _ => 0) 49)).setRow w1.heap.size (stA (newF 7)))) := hide (below_setRow (hB1h.out.alloc hB1h.out.size _) hB1h.out.size _)
  go_upto_region 2 with (fail)
  generalize World.setRow _ _ _ = w3 at *
  obtain ⟨g, hg⟩ : ∃ g, w1.heap.size = g := ⟨_, rfl⟩
  rw [hg] at hs3 ⊢
  clear hg hb0 hB1h
  have b3 : blk w3 g = some (.cells (stA (newF 7)) 49 (0, 0)) := blk_of hs3.out
  have c6 : w3.cell? ⟨g, 6, none⟩ = some (.int .i64 100) := by rw [← h7.out.1]; exact hs3.out.int (by omega) rfl
  have c2 : w3.cell? ⟨g, 2, none⟩ = some (.int .i64 (newF 7 2)) := hs3.out.int (by omega) rfl
  have c9 : w3.cell? ⟨g, 9, none⟩ = some (.int .i64 (newF 7 9)) := hs3.out.int (by omega) rfl
  have hlt := h7.out.2
  have d1 : decide (newF 7 2 < newF 7 9) = true := decide_eq_true hlt
  go_wp2_with fail
  refine (hst.out w3).mono ?_
  rintro e w4 ⟨rfl, hB4⟩
  have hB9 : Hid (Below w.heap.size w w4) := hide (hB3.out.trans (hB4.mono hB3.out.size))
  clear hB4 hB3 hs3 hst b3 c6 c2 c9
  have hf := hfr.out
  go_wp2_with fail
  go_ret
  exact ⟨rfl, hB9.out⟩
end Go.Proofs.Ytmfagdbocidfjaa

/- A state is the same as itself: what == says of it. Lemmas alone. -/
namespace Go.Proofs.Ytmfagdbocidfjaa
open Go.RowKit
section
variable {P : Program}
set_option maxRecDepth 100000 in
theorem part_int {t : TypeId} {k : IntKind} {xs : Array Value} {off : Nat} {v : Value} (hu : P.underlying t = some (.int k)) (hx : xs[off]? = some v) (w : World) : (part t xs off).run P w = .ok v w := run_part_plain w (by simp [Program.plainKey, hu]) hx
set_option maxRecDepth 100000 in
theorem part_bool {t : TypeId} {xs : Array Value} {off : Nat} {v : Value} (hu : P.underlying t = some .bool) (hx : xs[off]? = some v) (w : World) : (part t xs off).run P w = .ok v w := run_part_plain w (by simp [Program.plainKey, hu]) hx
set_option maxRecDepth 100000 in
theorem part_arr {t e : TypeId} {n : Nat} {i : TypeInfo} (hu : P.underlying t = some (.array n e)) (hi : P.info? t = some i) (xs : Array Value) (off : Nat) (w : World) : (part t xs off).run P w = .ok (.agg (xs.extract off (off + P.cellsOf t))) w := by
  unfold part
  simp [isAgg, run_underlying hu, run_sizeOf w hi]
set_option maxRecDepth 100000 in
theorem part_str {t : TypeId} {fs : Array Field} {i : TypeInfo} (hu : P.underlying t = some (.struct fs)) (hi : P.info? t = some i) (xs : Array Value) (off : Nat) (w : World) : (part t xs off).run P w = .ok (.agg (xs.extract off (off + P.cellsOf t))) w := by
  unfold part
  simp [isAgg, run_underlying hu, run_sizeOf w hi]
set_option maxRecDepth 100000 in
theorem eqFields_self (d : Nat) (xs : Array Value) : ∀ (fs : List Field) (w : World), (∀ f ∈ fs, ∃ v, ∀ w, (part f.type xs f.offset).run P w = .ok v w ∧ (Op.equalIn d f.type v v).run P w = .ok true w) → (Op.eqFields d xs xs fs).run P w = .ok true w
  | [], w, _ => by simp [Op.eqFields]
  | f :: fs, w, h => by
    obtain ⟨v, hv⟩ := h f (List.mem_cons_self ..)
    have ih := eqFields_self d xs fs w (fun g hg => h g (List.mem_cons_of_mem _ hg))
    unfold Op.eqFields
    split
    · simp only [Sem.run_bind, (hv w).1, (hv w).2, Result.andThen_ok]
      simpa using ih
    · exact ih
set_option maxRecDepth 100000 in
theorem eqItems_self (d : Nat) (e : TypeId) (c : Nat) (xs : Array Value) : ∀ (is : List Nat) (w : World), (∀ i ∈ is, ∃ v, ∀ w, (part e xs (i * c)).run P w = .ok v w ∧ (Op.equalIn d e v v).run P w = .ok true w) → (Op.eqItems d e c xs xs is).run P w = .ok true w
  | [], w, _ => by simp [Op.eqItems]
  | i :: is, w, h => by
    obtain ⟨v, hv⟩ := h i (List.mem_cons_self ..)
    have ih := eqItems_self d e c xs is w (fun g hg => h g (List.mem_cons_of_mem _ hg))
    unfold Op.eqItems
    simp only [Sem.run_bind, (hv w).1, (hv w).2, Result.andThen_ok]
    simpa using ih
def isK (k : IntKind) : Option TypeDesc → Bool
  | some (.int q) => decide (q = k)
  | _ => false
def isB : Option TypeDesc → Bool
  | some .bool => true
  | _ => false
set_option maxRecDepth 100000 in
theorem isK_eq {k : IntKind} {d : Option TypeDesc} (h : isK k d = true) : d = some (.int k) := by
  unfold isK at h
  split at h
  · rw [of_decide_eq_true h]
  · cases h
set_option maxRecDepth 100000 in
theorem isB_eq {d : Option TypeDesc} (h : isB d = true) : d = some .bool := by
  unfold isB at h
  split at h
  · rfl
  · cases h
set_option maxRecDepth 100000 in
theorem eq_int (d : Nat) {t : TypeId} {k : IntKind} (n : Int) (hu : P.underlying t = some (.int k)) (w : World) : (Op.equalIn (d + 1) t (.int k n) (.int k n)).run P w = .ok true w := by
  rw [run_equalIn_int w d t k k n n hu]
  simp
set_option maxRecDepth 100000 in
theorem eq_bool (d : Nat) {t : TypeId} (b : Bool) (hu : P.underlying t = some .bool) (w : World) : (Op.equalIn (d + 1) t (.bool b) (.bool b)).run P w = .ok true w := by
  rw [run_equalIn_bool' w d t b b hu]
  simp
end
set_option maxRecDepth 100000 in
theorem body_fields : ((Try.prog.fieldsOf 42).toList.all fun f => decide (f.offset < 7) && isK .i64 (Try.prog.underlying f.type)) = true := by kernel_rfl
set_option maxRecDepth 100000 in
theorem shot_fields : ((Try.prog.fieldsOf 45).toList.all fun f => (decide (f.offset = 0) && isB (Try.prog.underlying f.type)) || (decide (0 < f.offset) && decide (f.offset < 6) && isK .i64 (Try.prog.underlying f.type))) = true := by kernel_rfl
set_option maxRecDepth 100000 in
theorem state_fields : ((Try.prog.fieldsOf 49).toList.all fun f => (decide (f.offset = 0) && isK .i64 (Try.prog.underlying f.type)) || (decide (f.offset = 1) && isK .u32 (Try.prog.underlying f.type)) || (decide (f.offset = 2) && decide (f.type = 43)) || (decide (f.offset = 16) && decide (f.type = 46)) || (decide (f.offset = 64) && decide (f.type = 47))) = true := by kernel_rfl
set_option maxRecDepth 100000 in
theorem eq_body (d : Nat) (xs : Array Value) (h : ∀ j, j < 7 → ∃ v, xs[j]? = some (.int .i64 v)) (w : World) : (Op.equalIn (d + 2) 42 (.agg xs) (.agg xs)).run Try.prog w = .ok true w := by
  rw [run_equalIn_agg w (d + 1) 42 xs xs (by kernel_rfl) (by kernel_rfl)]
  refine eqFields_self (d + 1) xs _ w (fun f hf => ?_)
  have := List.all_eq_true.1 body_fields f hf
  rw [Bool.and_eq_true, decide_eq_true_eq] at this
  obtain ⟨v, hv⟩ := h _ this.1
  exact ⟨_, fun w => ⟨part_int (isK_eq this.2) hv w, eq_int d v (isK_eq this.2) w⟩⟩
set_option maxRecDepth 100000 in
theorem eq_shot (d : Nat) (xs : Array Value) (h0 : ∃ b, xs[0]? = some (.bool b)) (h : ∀ j, 0 < j → j < 6 → ∃ v, xs[j]? = some (.int .i64 v)) (w : World) : (Op.equalIn (d + 2) 45 (.agg xs) (.agg xs)).run Try.prog w = .ok true w := by
  rw [run_equalIn_agg w (d + 1) 45 xs xs (by kernel_rfl) (by kernel_rfl)]
  refine eqFields_self (d + 1) xs _ w (fun f hf => ?_)
  have := List.all_eq_true.1 shot_fields f hf
  rw [Bool.or_eq_true, Bool.and_eq_true, Bool.and_eq_true, Bool.and_eq_true, decide_eq_true_eq, decide_eq_true_eq, decide_eq_true_eq] at this
  rcases this with ⟨e, hu⟩ | ⟨⟨e1, e2⟩, hu⟩
  · obtain ⟨b, hb⟩ := h0
    rw [← e] at hb
    exact ⟨_, fun w => ⟨part_bool (isB_eq hu) hb w, eq_bool d b (isB_eq hu) w⟩⟩
  · obtain ⟨v, hv⟩ := h _ e1 e2
    exact ⟨_, fun w => ⟨part_int (isK_eq hu) hv w, eq_int d v (isK_eq hu) w⟩⟩
set_option maxRecDepth 100000 in
theorem infoOf (t : TypeId) (h : (Try.prog.info? t).isSome = true) : ∃ i, Try.prog.info? t = some i := Option.isSome_iff_exists.1 h
set_option maxRecDepth 100000 in
theorem ext_get (xs : Array Value) (o n j : Nat) (hj : j < n) (hx : o + n ≤ xs.size) : (xs.extract o (o + n))[j]? = xs[o + j]? := by
  rw [Array.getElem?_extract, if_pos (by omega)]
set_option maxRecDepth 100000 in
theorem eq_bodies (d : Nat) (xs : Array Value) (hs : xs.size = 14) (h : ∀ j, j < 14 → ∃ v, xs[j]? = some (.int .i64 v)) (w : World) : (Op.equalIn (d + 3) 43 (.agg xs) (.agg xs)).run Try.prog w = .ok true w := by
  obtain ⟨i, hi⟩ := infoOf 42 (by kernel_rfl)
  have hc : Try.prog.cellsOf 42 = 7 := by kernel_rfl
  rw [run_equalIn_array w (d + 2) xs xs Try.underlying43 hi]
  refine eqItems_self (d + 2) _ _ xs _ w (fun k hk => ?_)
  have hk2 : k < 2 := List.mem_range.1 hk
  refine ⟨_, fun w => ⟨part_str Try.underlying42 hi xs _ w, eq_body d _ (fun j hj => ?_) w⟩⟩
  rw [hc, ext_get xs (k * 7) 7 j hj (by omega)]
  exact h _ (by omega)
set_option maxRecDepth 100000 in
theorem eq_shots (d : Nat) (xs : Array Value) (hs : xs.size = 48) (h0 : ∀ k, k < 8 → ∃ b, xs[k * 6]? = some (.bool b)) (h : ∀ k j, k < 8 → 0 < j → j < 6 → ∃ v, xs[k * 6 + j]? = some (.int .i64 v)) (w : World) : (Op.equalIn (d + 3) 46 (.agg xs) (.agg xs)).run Try.prog w = .ok true w := by
  obtain ⟨i, hi⟩ := infoOf 45 (by kernel_rfl)
  have hc : Try.prog.cellsOf 45 = 6 := by kernel_rfl
  rw [run_equalIn_array w (d + 2) xs xs Try.underlying46 hi]
  refine eqItems_self (d + 2) _ _ xs _ w (fun k hk => ?_)
  have hk2 : k < 8 := List.mem_range.1 hk
  refine ⟨_, fun w => ⟨part_str Try.underlying45 hi xs _ w, eq_shot d _ ?_ (fun j h1 hj => ?_) w⟩⟩
  · rw [hc, ext_get xs (k * 6) 6 0 (by omega) (by omega)]
    exact h0 k hk2
  · rw [hc, ext_get xs (k * 6) 6 j hj (by omega)]
    exact h k j hk2 h1 hj
set_option maxRecDepth 100000 in
theorem eq_score (d : Nat) (xs : Array Value) (h : ∀ j, j < 2 → ∃ v, xs[j]? = some (.int .i64 v)) (w : World) : (Op.equalIn (d + 2) 47 (.agg xs) (.agg xs)).run Try.prog w = .ok true w := by
  obtain ⟨i, hi⟩ := infoOf 3 (by kernel_rfl)
  have hc : Try.prog.cellsOf 3 = 1 := by kernel_rfl
  rw [run_equalIn_array w (d + 1) xs xs Try.underlying47 hi]
  refine eqItems_self (d + 1) _ _ xs _ w (fun k hk => ?_)
  have hk2 : k < 2 := List.mem_range.1 hk
  obtain ⟨v, hv⟩ := h k hk2
  rw [hc, Nat.mul_one]
  exact ⟨_, fun w => ⟨part_int Try.underlying3 hv w, eq_int d v Try.underlying3 w⟩⟩
set_option maxRecDepth 100000 in
theorem eq_state (d : Nat) (S : Nat → Int) (w : World) : (Op.equalIn (d + 4) 49 (.agg (stA S)) (.agg (stA S))).run Try.prog w = .ok true w := by
  rw [run_equalIn_agg w (d + 3) 49 (stA S) (stA S) (by kernel_rfl) (by kernel_rfl)]
  refine eqFields_self (d + 3) (stA S) _ w (fun f hf => ?_)
  have := List.all_eq_true.1 state_fields f hf
  simp only [Bool.or_eq_true, Bool.and_eq_true, decide_eq_true_eq] at this
  have hz := stA_size S
  rcases this with (((⟨e, hu⟩ | ⟨e, hu⟩) | ⟨e, hu⟩) | ⟨e, hu⟩) | ⟨e, hu⟩
  · rw [e]
    exact ⟨_, fun w => ⟨part_int (isK_eq hu) ((stA_get S (by omega)).trans (by rw [cvS_int rfl])) w, eq_int (d + 2) _ (isK_eq hu) w⟩⟩
  · rw [e]
    exact ⟨_, fun w => ⟨part_int (isK_eq hu) (stA_get S (by omega)) w, eq_int (d + 2) _ (isK_eq hu) w⟩⟩
  · rw [e, hu]
    obtain ⟨i, hi⟩ := infoOf 43 (by kernel_rfl)
    have hc : Try.prog.cellsOf 43 = 14 := by kernel_rfl
    refine ⟨_, fun w => ⟨part_arr Try.underlying43 hi _ _ w, eq_bodies d _ ?_ (fun j hj => ?_) w⟩⟩
    · rw [hc, Array.size_extract]; omega
    · rw [hc, ext_get _ 2 14 j hj (by omega), stA_get S (by omega), cvS_int (by unfold kdS; rw [if_neg (by omega), if_neg (by omega)])]
      exact ⟨_, rfl⟩
  · rw [e, hu]
    obtain ⟨i, hi⟩ := infoOf 46 (by kernel_rfl)
    have hc : Try.prog.cellsOf 46 = 48 := by kernel_rfl
    refine ⟨_, fun w => ⟨part_arr Try.underlying46 hi _ _ w, eq_shots d _ ?_ (fun k hk => ?_) (fun k j hk h1 hj => ?_) w⟩⟩
    · rw [hc, Array.size_extract]; omega
    · rw [hc, ext_get _ 16 48 (k * 6) (by omega) (by omega), stA_get S (by omega), cvS_bool (by unfold kdS; rw [if_neg (by omega), if_pos (by omega)])]
      exact ⟨_, rfl⟩
    · rw [hc, ext_get _ 16 48 (k * 6 + j) (by omega) (by omega), stA_get S (by omega), cvS_int (by unfold kdS; rw [if_neg (by omega), if_neg (by omega)])]
      exact ⟨_, rfl⟩
  · rw [e, hu]
    obtain ⟨i, hi⟩ := infoOf 47 (by kernel_rfl)
    have hc : Try.prog.cellsOf 47 = 2 := by kernel_rfl
    refine ⟨_, fun w => ⟨part_arr Try.underlying47 hi _ _ w, eq_score (d + 1) _ (fun j hj => ?_) w⟩⟩
    rw [hc, ext_get _ 64 2 j hj (by omega), stA_get S (by omega), cvS_int (by unfold kdS; rw [if_neg (by omega), if_neg (by omega)])]
    exact ⟨_, rfl⟩
set_option maxRecDepth 100000 in
/-- x == x -/
theorem st_eql (S : Nat → Int) (w : World) : (binOp .eql 49 (.agg (stA S)) (.agg (stA S))).run Try.prog w = .ok (.bool true) w := by
  rw [run_eql_struct, show (10000 : Nat) = 9996 + 4 from rfl, eq_state 9996 S w]
  rfl
end Go.Proofs.Ytmfagdbocidfjaa

/- What a walk is told of a slice of structs that came in: each element's cells hold values of their kinds. Lemmas alone. -/
namespace Go.Proofs.Ytmfagdbocidfjaa
open Go.RowKit Go.ChangeShapes Go.WideShapes Go.ChangeAt Go.Deep
/-- a cell's kind: an integer's, or (none) a bool's; a value of it -/
def FOk : Option IntKind → Value → Prop
  | some k, v => ∃ n, v = .int k n ∧ (Lit.int k n).wf = true
  | none, v => ∃ b, v = .bool b
set_option maxRecDepth 100000 in
theorem FOk.int {k : IntKind} {v : Value} (h : FOk (some k) v) : ∃ n, v = .int k n ∧ (Lit.int k n).wf = true := h
set_option maxRecDepth 100000 in
theorem FOk.bool {v : Value} (h : FOk none v) : ∃ b, v = .bool b := h
/-- the cells of a type, one by one, are of these kinds -/
def Flat (P : Program) (t : TypeId) (ks : List (Option IntKind)) : Prop :=
  ∀ (H : Type) (enc : TypeId × Value → H) (w : World) (base : Nat) (spare : Nat → Bool) (held : Bool) (fuel : Nat) (cs : List Value) (x : DataW H × List MemPlace),
    DataW.trod enc P w base spare held fuel t cs = some x → ∀ (j : Nat) (k : Option IntKind), ks[j]? = some k → ∃ v : Value, cs[j]? = some v ∧ FOk k v
set_option maxRecDepth 100000 in
theorem flat_int {P : Program} {t : TypeId} {k : IntKind} (h : P.underlying t = some (.int k)) : Flat P t [some k] := by
  intro H enc w base spare held fuel cs x hx j k' hj
  obtain ⟨n, rfl, _, hw⟩ := DataW.trod_int h hx
  cases j with
  | zero =>
    injection hj with hj
    subst hj
    exact ⟨_, rfl, n, rfl, hw⟩
  | succ j => simp at hj
set_option maxRecDepth 100000 in
theorem flat_bool {P : Program} {t : TypeId} (h : P.underlying t = some .bool) : Flat P t [none] := by
  intro H enc w base spare held fuel cs x hx j k' hj
  obtain ⟨b, rfl, _⟩ := DataW.trod_bool h hx
  cases j with
  | zero =>
    injection hj with hj
    subst hj
    exact ⟨_, rfl, b, rfl⟩
  | succ j => simp at hj
set_option maxRecDepth 100000 in
theorem flat_struct {P : Program} {t : TypeId} {fs : Array Field} {ks : List (Option IntKind)} (hu : P.underlying t = some (.struct fs))
    (hf : ∀ (j : Nat) (k : Option IntKind), ks[j]? = some k → ∃ (i : Nat) (f : Field) (ks' : List (Option IntKind)) (j' : Nat), fs[i]? = some f ∧ j = f.offset + j' ∧ ks'[j']? = some k ∧ j' < P.cellsOf f.type ∧ Flat P f.type ks') : Flat P t ks := by
  intro H enc w base spare held fuel cs x hx j k hj
  obtain ⟨i, f, ks', j', hi, rfl, hk, hlt, hfl⟩ := hf j k hj
  obtain ⟨xs, n, _, _, hlen, hxl, hg⟩ := DataW.trod_struct hu hx
  have h1 := hg i f hi
  have hil : i < xs.length := by rw [hxl]; exact (Array.getElem?_eq_some_iff.1 hi).1
  rw [List.getElem?_eq_getElem hil] at h1
  obtain ⟨v, hv, hok⟩ := hfl H enc w base spare held n _ _ h1 j' k hk
  refine ⟨v, ?_, hok⟩
  rw [List.getElem?_take, if_pos hlt, List.getElem?_drop] at hv
  exact hv
def IsRec (ks : List (Option IntKind)) (w : World) (a : Option Addr) (len cap : Nat) : Prop :=
  ∃ f : Nat → Nat → Value, (∀ (i j : Nat) (k : Option IntKind), i < len → ks[j]? = some k → FOk k (f i j)) ∧
    (∀ i : Nat, i < len → ∃ b off : Nat, a = some ⟨b, off, none⟩ ∧ ∀ j : Nat, j < ks.length → w.cell? ⟨b, off + (i * ks.length + j), none⟩ = some (f i j)) ∧
    len ≤ cap ∧ cap ≤ maxLen ∧ (a = none → len = 0 ∧ cap = 0)
set_option maxRecDepth 100000 in
theorem isRec_open {H : Type} {enc : TypeId × Value → H} {P : Program} {W : World} {t e : TypeId} {ks : List (Option IntKind)} {a : Option Addr} {len cap : Nat} {d : DataW H} {p : List MemPlace}
    (ht : P.underlying t = some (.slice e)) (hF : Flat P e ks) (hC : P.cellsOf e = ks.length) (h0 : 0 < ks.length)
    (h : DataW.Trod enc P W 0 (fun _ => true) true t (.slice a len cap) d p) : IsRec ks W a len cap := by
  obtain ⟨fuel, hf⟩ := h
  rcases open_slice ht hf with ⟨hcs, _⟩ | ⟨x, l, c, m, n, D, Pl, hcs, _, hl, hm, hmm, _, hi⟩
  · simp [Value.cells] at hcs
    obtain ⟨rfl, rfl, rfl⟩ := hcs
    exact ⟨fun _ _ => .bool false, fun i j k hi => absurd hi (by omega), fun i hi => absurd hi (by omega), Nat.le_refl _, by unfold maxLen; omega, fun _ => ⟨rfl, rfl⟩⟩
  · simp [Value.cells] at hcs
    obtain ⟨rfl, rfl, rfl⟩ := hcs
    simp only [if_true] at hmm
    subst hmm
    rw [hC] at hi
    have key : ∀ i : Nat, i < len → ∀ (j : Nat) (k : Option IntKind), ks[j]? = some k → ∃ v : Value, FOk k v ∧ W.cell? (x.add (i * ks.length + j)) = some v := by
      intro i hil j k hk
      obtain ⟨cs', hc, ht'⟩ := hi i (by omega)
      obtain ⟨_, hcl, hat⟩ := World.cells?_some hc
      obtain ⟨v, hv, hok⟩ := hF H enc W 0 _ true n cs' _ ht' j k hk
      have hj : j < ks.length := (List.getElem?_eq_some_iff.1 hk).1
      refine ⟨v, hok, ?_⟩
      rw [← Go.Deep.add_add, hat j hj, hv]
    have hne : ∀ i, i < len → ∃ b off, x = ⟨b, off, none⟩ := by
      intro i hil
      obtain ⟨v, _, hc⟩ := key i hil 0 _ (List.getElem?_eq_getElem h0)
      obtain ⟨b, off, spot⟩ := x
      have hspot : spot = none := by
        by_cases hz : i * ks.length + 0 = 0
        · rw [hz] at hc; simpa [Addr.add] using World.cell?_spot hc
        · have := World.cell?_spot hc
          unfold Addr.add at hc
          by_cases hs : spot = none
          · exact hs
          · exfalso
            obtain ⟨v0, _, hc0⟩ := key 0 (by omega) 0 _ (List.getElem?_eq_getElem h0)
            have := World.cell?_spot hc0
            simp [Addr.add] at this
            exact hs this
      subst hspot
      exact ⟨b, off, rfl⟩
    refine ⟨fun i j => (W.cell? (x.add (i * ks.length + j))).getD (.bool false), ?_, ?_, hl, hm, fun e => by cases e⟩
    · intro i j k hil hk
      obtain ⟨v, hok, hc⟩ := key i hil j k hk
      simp only [hc, Option.getD_some]
      exact hok
    · intro i hil
      obtain ⟨b, off, rfl⟩ := hne i hil
      refine ⟨b, off, rfl, fun j hj => ?_⟩
      obtain ⟨v, _, hc⟩ := key i hil j _ (List.getElem?_eq_getElem hj)
      rw [← add_none]
      simp only [hc, Option.getD_some]
end Go.Proofs.Ytmfagdbocidfjaa

/- Rows of numbers that a call made itself, as functions from places to numbers: reading, writing, keeping them. Lemmas alone. -/
import Derived.Test.YtdpngimcmohmaaaAid
import Derived.Laws.OwnMore
import Derived.Laws.MakeOwn
namespace Go.Proofs.Ytdpngimcmohmaaa
open Go.RowKit
/-- block g is a row of n numbers of kind k; the one at i is f i -/
def FRow (w : World) (g : Nat) (T : TypeId) (k : IntKind) (n : Nat) (f : Nat → Int) : Prop :=
  ∃ C : Array Value, w.heap[g]? = some (.cells C T (0, 0)) ∧ n ≤ C.size ∧ ∀ i, i < n → C[i]? = some (.int k (f i))
section
variable {w w' : World} {g : Nat} {T : TypeId} {k : IntKind} {n : Nat} {f f' : Nat → Int}
set_option maxRecDepth 100000 in
theorem FRow.cell (h : FRow w g T k n f) (i : Nat) (hi : i < n) : w.cell? ⟨g, i, none⟩ = some (.int k (f i)) := by
  obtain ⟨C, hb, hs, hc⟩ := h
  rw [cell_of_block hb]; exact hc i hi
set_option maxRecDepth 100000 in
theorem FRow.fr (h : FRow w g T k n f) (i : Nat) : w.frozen? ⟨g, i, none⟩ = false := by
  obtain ⟨C, hb, hs, hc⟩ := h
  exact frozen_of_row w g i C T hb
set_option maxRecDepth 100000 in
theorem FRow.lt (h : FRow w g T k n f) : g < w.heap.size := by
  obtain ⟨C, hb, hs, hc⟩ := h
  exact (Array.getElem?_eq_some_iff.1 hb).1
set_option maxRecDepth 100000 in
theorem FRow.congr (h : FRow w g T k n f) (e : ∀ j, j < n → f j = f' j) : FRow w g T k n f' := by
  obtain ⟨C, hb, hs, hc⟩ := h
  exact ⟨C, hb, hs, fun i hi => by rw [hc i hi, e i hi]⟩
set_option maxRecDepth 100000 in
theorem FRow.keep (h : FRow w g T k n f) (e : w'.heap[g]? = w.heap[g]?) : FRow w' g T k n f := by
  obtain ⟨C, hb, hs, hc⟩ := h
  exact ⟨C, e.trans hb, hs, hc⟩
set_option maxRecDepth 100000 in
theorem FRow.below {B : Nat} (h : FRow w g T k n f) (hb : Below B w w') (hg : g < B) : FRow w' g T k n f := h.keep (hb.block g hg)
set_option maxRecDepth 100000 in
theorem FRow.alloc (h : FRow w g T k n f) (o : Obj) : FRow (w.alloc o) g T k n f := h.keep (Below.heap_alloc w o g h.lt)
set_option maxRecDepth 100000 in
theorem FRow.drewN (h : FRow w g T k n f) (m : Nat) : FRow (w.drewN m) g T k n f := h
set_option maxRecDepth 100000 in
theorem FRow.drew (h : FRow w g T k n f) : FRow w.drew g T k n f := h
set_option maxRecDepth 100000 in
theorem FRow.set (h : FRow w g T k n f) (i : Nat) (x : Int) : FRow (w.setCell ⟨g, i, none⟩ (.int k x)) g T k n (fun j => if j = i then x else f j) := by
  obtain ⟨C, hb, hs, hc⟩ := h
  refine ⟨_, blk_set hb i _, by rw [Array.size_setIfInBounds]; exact hs, fun j hj => ?_⟩
  rw [Array.getElem?_setIfInBounds]
  by_cases e : i = j
  · subst e
    rw [if_pos rfl, if_pos (by omega)]
    simp
  · rw [if_neg e, hc j hj]
    have : ¬ j = i := fun h => e h.symm
    simp [this]
set_option maxRecDepth 100000 in
theorem FRow.other (h : FRow w g T k n f) {g' : Nat} (hne : g ≠ g') (off : Nat) (v : Value) : FRow (w.setCell ⟨g', off, none⟩ v) g T k n f := by
  obtain ⟨C, hb, hs, hc⟩ := h
  exact ⟨C, blk_set_other hb hne off v, hs, hc⟩
set_option maxRecDepth 100000 in
theorem FRow.less (h : FRow w g T k n f) (m : Nat) (hm : m ≤ n) : FRow w g T k m f := by
  obtain ⟨C, hb, hs, hc⟩ := h
  exact ⟨C, hb, by omega, fun i hi => hc i (by omega)⟩
set_option maxRecDepth 100000 in
theorem FRow.own {base cap : Nat} {l : List Value} (h : w.ownsRow base T 1 (.slice (some ⟨g, 0, none⟩) n cap) n l) (e : ∀ i, i < n → l[i]? = some (.int k (f i))) : FRow w g T k n f := by
  rcases h.2 with ⟨h1, _⟩ | ⟨g', cap', cur, hv, hb, hg, h1, h2, h3, h4⟩
  · cases h1
  · cases hv
    refine ⟨cur, hg, by omega, fun i hi => ?_⟩
    have := e i hi
    rw [← h4, List.getElem?_take, if_pos (by omega), Array.getElem?_toList] at this
    exact this
set_option maxRecDepth 100000 in
theorem own_cap {w : World} {base g n cap : Nat} {T : TypeId} {l : List Value} (h : w.ownsRow base T 1 (.slice (some ⟨g, 0, none⟩) n cap) n l) : n ≤ cap ∧ cap ≤ maxLen ∧ base ≤ g := by
  rcases h.2 with ⟨h1, _⟩ | ⟨g', cap', cur, hv, hb, hg, h1, h2, h3, h4⟩
  · cases h1
  · cases hv
    exact ⟨h1, h2, hb⟩
set_option maxRecDepth 100000 in
theorem FRow.slZ (h : FRow w g T k n f) : SlZ k w (some ⟨g, 0, none⟩) ((List.range n).map f) := by
  intro i x hx
  have hi : i < n := by have := (List.getElem?_eq_some_iff.1 hx).1; simpa using this
  refine ⟨g, 0, rfl, ?_⟩
  rw [Nat.zero_add, h.cell i hi]
  simp [hi] at hx
  rw [hx]
end
set_option maxRecDepth 100000 in
theorem frow_made (w : World) (T : TypeId) (k : IntKind) (n : Nat) : FRow (w.alloc (.cells (madeCells #[.int k 0] n) T)) w.heap.size T k n (fun _ => 0) := by
  refine ⟨_, last_block0 w _ _ rfl, ?_, fun i hi => ?_⟩
  · rw [← Array.length_toList, toList_madeCells_one]; simp
  · rw [← Array.getElem?_toList, toList_madeCells_one]; simp [hi]
set_option maxRecDepth 100000 in
/-- a make of a slice of numbers, its size known to fit -/
theorem make_row {P : Program} {S E : TypeId} {k : IntKind} {sz : Nat} (hS : P.underlying S = some (.slice E)) (hE : (P.info? E).map (fun i => (i.zero, i.size, i.bytes)) = some (some (.int k 0), 1, sz)) (n : Nat) (hn : n ≤ 100000000) (hz : sz ≤ 16) (w : World) :
    (Instr.makeSlice S (.int .i64 (n : Int)) (.int .i64 (n : Int))).run P w = .ok (.slice (some ⟨w.heap.size, 0, none⟩) n n) (w.alloc (.cells (madeCells #[.int k 0] n) E)) := by
  obtain ⟨i0, hi, hz0, hz1, hz2⟩ := info_parts hE
  have h := run_make (P := P) w S E i0 (.int k 0) hS hi hz0 .i64 .i64 (n : Int) (n : Int) (by omega) (by omega) (by rw [hz2]; have : sz * n ≤ 16 * 100000000 := Nat.mul_le_mul hz hn; omega) (by omega)
  simpa [hz1, Value.cells] using h
end Go.Proofs.Ytdpngimcmohmaaa

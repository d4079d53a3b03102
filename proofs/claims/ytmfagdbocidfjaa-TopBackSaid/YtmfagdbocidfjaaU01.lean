import Derived.Test.YtmfagdbocidfjaaRows
import Derived.WalkKit
import Derived.ProofKit
import Derived.OpenShut
import Derived.WalkLawsBesides
import Derived.WalkSpells
import Derived.Lib.Hide
import Derived.Outline
import Derived.Deep.QuietTactic
import Derived.BigQuiet
import Derived.BigRegion
import Derived.Deep.LoopGhost
import Derived.Laws.BitsAllLaws
import Derived.Below
import Derived.Carry
import Derived.Deep.DeepCutAuto
import Derived.Deep.DeepMust
import Derived.Deep.DeepFit
import Derived.OwnWalk
import Derived.Laws.Rows
import Derived.Laws.CopyOwn
import Derived.ArgAppend
import Derived.Laws.OwnMore
/- Small lemmas that the walks of this seat share: worlds, arrays, bits of numbers, what a walk is told of a slice that came in. Lemmas alone; nothing here is a statement of the seat. -/
namespace Go.Proofs.Ytmfagdbocidfjaa
open Go.RowKit Go.ChangeShapes Go.WideShapes Go.ChangeAt

set_option maxRecDepth 100000 in
theorem hide {p : Prop} (h : p) : Hid p := h
set_option maxRecDepth 100000 in
theorem below_drewN {B : Nat} {a w : World} (h : Below B a w) (n : Nat) : Below B a (w.drewN n) := ⟨h.os, h.tape, h.output, h.size, h.block⟩
set_option maxRecDepth 100000 in
theorem sc_drewN (w : World) (c : Array Value) (T : TypeId) (n off : Nat) (v : Value) :
    ((w.alloc (.cells c T)).drewN n).setCell ⟨w.heap.size, off, none⟩ v = (w.alloc (.cells (c.setIfInBounds off v) T)).drewN n := by
  have h := World.setCell_alloc_new (w := w) c T off v
  have h2 : ((w.alloc (.cells c T)).drewN n).setCell ⟨w.heap.size, off, none⟩ v = ((w.alloc (.cells c T)).setCell ⟨w.heap.size, off, none⟩ v).drewN n := rfl
  rw [h2, h]
set_option maxRecDepth 100000 in
theorem arr_at (c : Array Value) (i n : Nat) (hs : c.size = n) (h : i < n) : ∃ v, c[i]? = some v :=
  ⟨_, Array.getElem?_eq_getElem (by rw [hs]; exact h)⟩
set_option maxRecDepth 100000 in
theorem ofInt_i64 (a : Nat) (ha : a < 9223372036854775808) : (BitVec.ofInt 64 (a : Int)).toNat = a := by
  rw [BitVec.ofInt_natCast, BitVec.toNat_ofNat]; exact Nat.mod_eq_of_lt (by omega)
set_option maxRecDepth 100000 in
theorem i64_xor_nat (a b : Nat) (ha : a < 9223372036854775808) (hb : b < 9223372036854775808) : bits .xor .i64 (a : Int) (b : Int) = ((a ^^^ b : Nat) : Int) := by
  have hx : a ^^^ b < 2 ^ 63 := Nat.xor_lt_two_pow (by omega) (by omega)
  show IntKind.i64.wrap ((BitVec.ofInt 64 (a : Int) ^^^ BitVec.ofInt 64 (b : Int)).toNat : Int) = _
  rw [BitVec.toNat_xor, ofInt_i64 a ha, ofInt_i64 b hb, IntKind.wrap_i64]
  omega
set_option maxRecDepth 100000 in
theorem cast_pow (x k : Nat) : (x : Int) / 2 ^ k = ((x / 2 ^ k : Nat) : Int) := by simp
set_option maxRecDepth 100000 in
theorem tmod2 (x : Nat) : ((x : Int).tmod 2 == 1) = decide (x % 2 = 1) := by
  rw [Int.tmod_eq_emod_of_nonneg (by omega)]
  rw [Bool.eq_iff_iff]
  simp
  omega
set_option maxRecDepth 100000 in
theorem u8_nat {a : Int} (h : (Lit.int .u8 a).wf = true) : ∃ n : Nat, a = n ∧ n < 256 := by
  have hx : 0 ≤ a ∧ a ≤ 255 := by simpa [Lit.wf, IntKind.min, IntKind.max, IntKind.signed, IntKind.bits] using h
  exact ⟨a.toNat, by omega, by omega⟩
set_option maxRecDepth 100000 in
theorem i64_bd {a : Int} (h : (Lit.int .i64 a).wf = true) : -9223372036854775808 ≤ a ∧ a ≤ 9223372036854775807 := by
  simpa [Lit.wf, IntKind.min, IntKind.max, IntKind.signed, IntKind.bits] using h
set_option maxRecDepth 100000 in
theorem u32_nat {a : Int} (h : (Lit.int .u32 a).wf = true) : ∃ n : Nat, a = n ∧ n < 4294967296 := by
  have hx : 0 ≤ a ∧ a ≤ 4294967295 := by simpa [Lit.wf, IntKind.min, IntKind.max, IntKind.signed, IntKind.bits] using h
  exact ⟨a.toNat, by omega, by omega⟩
set_option maxRecDepth 100000 in
theorem u64_nat {a : Int} (h : (Lit.int .u64 a).wf = true) : ∃ n : Nat, a = n ∧ n < 18446744073709551616 := by
  have hx : 0 ≤ a ∧ a ≤ 18446744073709551615 := by simpa [Lit.wf, IntKind.min, IntKind.max, IntKind.signed, IntKind.bits] using h
  exact ⟨a.toNat, by omega, by omega⟩
set_option maxRecDepth 100000 in
theorem ret_int {k : IntKind} {a b : Int} (h : a = b) : Ending.returned (.int k a) = .returned (.int k b) := by rw [h]
set_option maxRecDepth 100000 in
theorem ret_bool {a b : Bool} (h : a = b) : Ending.returned (.bool a) = .returned (.bool b) := by rw [h]

/-- What a walk is told of a slice of integers that came in: it is nil; or it leads to a row of 'cap' cells, the numbers 'zs' (the first 'len' are its elements, the rest its spare room), each fitting its kind. -/
def IsRow (k : IntKind) (w : World) (a : Option Addr) (len cap : Nat) (zs : List Int) : Prop :=
  (a = none ∧ len = 0 ∧ cap = 0 ∧ zs = []) ∨
  ∃ x, a = some x ∧ len ≤ cap ∧ cap ≤ maxLen ∧ zs.length = cap ∧ (∀ i, i < zs.length → w.cell? (x.add i) = some (.int k (zs.getD i 0))) ∧ ∀ n ∈ zs, (Lit.int k n).wf = true

set_option maxRecDepth 100000 in
theorem cell_of_block {w : World} {b i : Nat} {c : Array Value} {T : TypeId} {fr : Nat × Nat} (h : w.heap[b]? = some (.cells c T fr)) : w.cell? ⟨b, i, none⟩ = c[i]? := by
  simp [World.cell?, h]
set_option maxRecDepth 100000 in
theorem cell_block_lt {w : World} {a : Addr} {v : Value} (h : w.cell? a = some v) : a.block < w.heap.size := by
  unfold World.cell? at h
  split at h
  · rename_i heq
    exact (Array.getElem?_eq_some_iff.1 heq).1
  · cases h

/-- A slice of numbers of kind k reads as the list l: each element's cell holds its number. (Nil where l is empty, or not.) -/
def SlN (k : IntKind) (w : World) (s : Option Addr) (l : List Nat) : Prop := ∀ i x, l[i]? = some x → ∃ b off, s = some ⟨b, off, none⟩ ∧ w.cell? ⟨b, off + i, none⟩ = some (.int k (x : Nat))
set_option maxRecDepth 100000 in
theorem SlN.drewN {k : IntKind} {w : World} {s : Option Addr} {l : List Nat} (h : SlN k w s l) (n : Nat) : SlN k (w.drewN n) s l := h
set_option maxRecDepth 100000 in
theorem SlN.alloc {k : IntKind} {w : World} {s : Option Addr} {l : List Nat} (h : SlN k w s l) (o : Obj) : SlN k (w.alloc o) s l := by
  intro i x hx
  obtain ⟨b, off, hs, hc⟩ := h i x hx
  exact ⟨b, off, hs, (World.cell?_of_block (w := w) (Below.heap_alloc w o b (cell_block_lt hc))).trans hc⟩
set_option maxRecDepth 100000 in
theorem SlN.below {k : IntKind} {w w' : World} {s : Option Addr} {l : List Nat} (h : SlN k w s l) (hb : Below w.heap.size w w') : SlN k w' s l := by
  intro i x hx
  obtain ⟨b, off, hs, hc⟩ := h i x hx
  exact ⟨b, off, hs, by rw [hb.cell (p := ⟨b, off + i, none⟩) (cell_block_lt hc)]; exact hc⟩
set_option maxRecDepth 100000 in
/-- A block of numbers, known whole, reads as its numbers. -/
theorem SlN.lit (k : IntKind) {w : World} {b : Nat} (l : List Nat) {T : TypeId} {c : Array Value} {fr : Nat × Nat} (h : w.heap[b]? = some (.cells c T fr)) (hc : c.toList = l.map fun x => .int k (x : Nat)) : SlN k w (some ⟨b, 0, none⟩) l := by
  intro i x hx
  refine ⟨_, _, rfl, ?_⟩
  rw [cell_of_block h, ← Array.getElem?_toList, hc, Nat.zero_add]
  simp [hx]
set_option maxRecDepth 100000 in
/-- The block that was made last. -/
theorem last_block (w : World) (o : Obj) (n b : Nat) (hb : b = w.heap.size) : ((w.alloc o).drewN n).heap[b]? = some o := by
  show (w.heap.push _)[b]? = _
  rw [hb]; simp
set_option maxRecDepth 100000 in
theorem last_block0 (w : World) (o : Obj) (b : Nat) (hb : b = w.heap.size) : (w.alloc o).heap[b]? = some o := by
  show (w.heap.push _)[b]? = _
  rw [hb]; simp
set_option maxRecDepth 100000 in
/-- An argument that is a slice of integers, opened. -/
theorem isRow_open {H : Type} {enc : TypeId × Value → H} {P : Program} {W : World} {t e : TypeId} {k : IntKind} {a : Option Addr} {len cap : Nat} {d : DataW H} {p : List MemPlace}
    (ht : P.underlying t = some (.slice e)) (he : P.underlying e = some (.int k)) (hc : P.cellsOf e = 1)
    (h : DataW.Trod enc P W 0 (fun _ => true) true t (.slice a len cap) d p) : ∃ zs, IsRow k W a len cap zs := by
  obtain ⟨fuel, hf⟩ := h
  rcases open_ints ht he hc hf with ⟨hcs, _⟩ | ⟨x, l, c, zs, hcs, _, hl, hm, hz, _, hcell, hwz⟩
  · simp [Value.cells] at hcs
    obtain ⟨rfl, rfl, rfl⟩ := hcs
    exact ⟨[], .inl ⟨rfl, rfl, rfl, rfl⟩⟩
  · simp [Value.cells] at hcs
    obtain ⟨rfl, rfl, rfl⟩ := hcs
    refine ⟨zs, .inr ⟨x, rfl, hl, hm, by simpa using hz, hcell, hwz⟩⟩
set_option maxRecDepth 100000 in
theorem add_none (b off i : Nat) : (⟨b, off, none⟩ : Addr).add i = ⟨b, off + i, none⟩ := by unfold Addr.add; split <;> simp_all
set_option maxRecDepth 100000 in
theorem row_addr {k : IntKind} {w : World} {x : Addr} {zs : List Int} (hcell : ∀ i, i < zs.length → w.cell? (x.add i) = some (.int k (zs.getD i 0))) {i : Nat} (hi : i < zs.length) :
    ∃ b off, x = ⟨b, off, none⟩ := by
  have h0 := hcell 0 (by omega)
  obtain ⟨b, off, spot⟩ := x
  have hspot : spot = none := by simpa [Addr.add] using World.cell?_spot h0
  subst hspot
  exact ⟨b, off, rfl⟩
set_option maxRecDepth 100000 in
/-- As a list of natural numbers: for the kinds without a sign. -/
theorem isRow_nat {k : IntKind} {w : World} {a : Option Addr} {len cap : Nat} {zs : List Int} (h : IsRow k w a len cap zs) (B : Nat) (hk : ∀ n : Int, (Lit.int k n).wf = true → 0 ≤ n ∧ n < B) :
    ∃ l : List Nat, l.length = len ∧ len ≤ cap ∧ cap ≤ maxLen ∧ (∀ x ∈ l, x < B) ∧ SlN k w a l := by
  rcases h with ⟨rfl, rfl, rfl, rfl⟩ | ⟨x, rfl, hl, hm, hz, hcell, hwz⟩
  · exact ⟨[], rfl, Nat.le_refl _, by unfold maxLen; omega, by simp, fun i x hx => by simp at hx⟩
  · refine ⟨(zs.take len).map Int.toNat, by simp; omega, hl, hm, ?_, ?_⟩
    · intro y hy
      obtain ⟨n, hn, rfl⟩ := List.mem_map.1 hy
      have := hk n (hwz n (List.mem_of_mem_take hn))
      omega
    · intro i y hy
      rw [List.getElem?_map] at hy
      rcases hq : (zs.take len)[i]? with _ | n
      · rw [hq] at hy; cases hy
      · rw [hq] at hy
        simp only [Option.map_some, Option.some.injEq] at hy
        have hi : i < (zs.take len).length := (List.getElem?_eq_some_iff.1 hq).1
        have hzi : zs[i]? = some n := by
          rw [List.getElem?_take] at hq
          split at hq
          · exact hq
          · cases hq
        have hn := hk n (hwz n (List.mem_of_getElem? hzi))
        have hc := hcell i (by simp at hi; omega)
        rw [List.getD_eq_getElem?_getD, hzi] at hc
        obtain ⟨b, off, rfl⟩ := row_addr hcell (i := i) (by simp at hi; omega)
        refine ⟨b, off, rfl, ?_⟩
        have e : (y : Int) = n := by omega
        rw [e, ← add_none]
        simpa using hc
set_option maxRecDepth 100000 in
theorem isRow_none {k : IntKind} {w : World} {len cap : Nat} {zs : List Int} (h : IsRow k w none len cap zs) : len = 0 ∧ cap = 0 := by
  rcases h with ⟨_, h1, h2, _⟩ | ⟨x, hx, _⟩
  · exact ⟨h1, h2⟩
  · cases hx
set_option maxRecDepth 100000 in
theorem SlN.block_lt {k : IntKind} {w : World} {s : Option Addr} {l : List Nat} (h : SlN k w s l) (hl : l ≠ []) : ∃ b off, s = some ⟨b, off, none⟩ ∧ b < w.heap.size := by
  cases l with
  | nil => exact absurd rfl hl
  | cons x r =>
    obtain ⟨b, off, hs, hc⟩ := h 0 x rfl
    exact ⟨b, off, hs, cell_block_lt hc⟩
/-- As a list of integers. -/
def SlZ (k : IntKind) (w : World) (s : Option Addr) (l : List Int) : Prop := ∀ i x, l[i]? = some x → ∃ b off, s = some ⟨b, off, none⟩ ∧ w.cell? ⟨b, off + i, none⟩ = some (.int k x)
set_option maxRecDepth 100000 in
theorem SlZ.drewN {k : IntKind} {w : World} {s : Option Addr} {l : List Int} (h : SlZ k w s l) (n : Nat) : SlZ k (w.drewN n) s l := h
set_option maxRecDepth 100000 in
theorem SlZ.below {k : IntKind} {w w' : World} {s : Option Addr} {l : List Int} (h : SlZ k w s l) (hb : Below w.heap.size w w') : SlZ k w' s l := by
  intro i x hx
  obtain ⟨b, off, hs, hc⟩ := h i x hx
  exact ⟨b, off, hs, by rw [hb.cell (p := ⟨b, off + i, none⟩) (cell_block_lt hc)]; exact hc⟩
set_option maxRecDepth 100000 in
theorem isRow_int {k : IntKind} {w : World} {a : Option Addr} {len cap : Nat} {zs : List Int} (h : IsRow k w a len cap zs) :
    ∃ l : List Int, l.length = len ∧ len ≤ cap ∧ cap ≤ maxLen ∧ (∀ x ∈ l, (Lit.int k x).wf = true) ∧ SlZ k w a l := by
  rcases h with ⟨rfl, rfl, rfl, rfl⟩ | ⟨x, rfl, hl, hm, hz, hcell, hwz⟩
  · exact ⟨[], rfl, Nat.le_refl _, by unfold maxLen; omega, by simp, fun i x hx => by simp at hx⟩
  · refine ⟨zs.take len, by simp; omega, hl, hm, fun y hy => hwz y (List.mem_of_mem_take hy), ?_⟩
    intro i y hy
    have hi : i < (zs.take len).length := (List.getElem?_eq_some_iff.1 hy).1
    have hzi : zs[i]? = some y := by
      rw [List.getElem?_take] at hy
      split at hy
      · exact hy
      · cases hy
    have hc := hcell i (by simp at hi; omega)
    rw [List.getD_eq_getElem?_getD, hzi] at hc
    obtain ⟨b, off, rfl⟩ := row_addr hcell (i := i) (by simp at hi; omega)
    exact ⟨b, off, rfl, by rw [← add_none]; simpa using hc⟩
set_option maxRecDepth 100000 in
theorem u8_bd (n : Int) (h : (Lit.int .u8 n).wf = true) : 0 ≤ n ∧ n < (256 : Nat) := by
  obtain ⟨m, rfl, hm⟩ := u8_nat h; omega
set_option maxRecDepth 100000 in
theorem u32_bd (n : Int) (h : (Lit.int .u32 n).wf = true) : 0 ≤ n ∧ n < (4294967296 : Nat) := by
  obtain ⟨m, rfl, hm⟩ := u32_nat h; omega

/-! ### facts on a block in a world that turns; what but one block, and what is new, has stayed -/
set_option maxRecDepth 100000 in
theorem blk_alloc {w : World} {b : Nat} {o : Obj} (h : w.heap[b]? = some o) (o' : Obj) : (w.alloc o').heap[b]? = some o :=
  (Below.heap_alloc w o' b (Array.getElem?_eq_some_iff.1 h).1).trans h
set_option maxRecDepth 100000 in
theorem blk_drewN {w : World} {b : Nat} {o : Obj} (h : w.heap[b]? = some o) (n : Nat) : (w.drewN n).heap[b]? = some o := h
set_option maxRecDepth 100000 in
theorem blk_drew {w : World} {b : Nat} {o : Obj} (h : w.heap[b]? = some o) : w.drew.heap[b]? = some o := h
set_option maxRecDepth 100000 in
theorem blk_set {w : World} {b : Nat} {c : Array Value} {T : TypeId} (h : w.heap[b]? = some (.cells c T (0, 0))) (off : Nat) (v : Value) : (w.setCell ⟨b, off, none⟩ v).heap[b]? = some (.cells (c.setIfInBounds off v) T (0, 0)) :=
  heap_setCell_same w b off c T v h
set_option maxRecDepth 100000 in
theorem blk_set_other {w : World} {b b' : Nat} {o : Obj} (h : w.heap[b]? = some o) (hne : b ≠ b') (off : Nat) (v : Value) : (w.setCell ⟨b', off, none⟩ v).heap[b]? = some o :=
  (heap_setCell_other w ⟨b', off, none⟩ b v hne).trans h
set_option maxRecDepth 100000 in
theorem frozen_blk {w : World} {b off : Nat} {c : Array Value} {T : TypeId} (h : w.heap[b]? = some (.cells c T (0, 0))) : w.frozen? ⟨b, off, none⟩ = false := frozen_of_row w b off c T h
set_option maxRecDepth 100000 in
theorem only_refl (w : World) (row : Option Nat) : w.grownBy w row := ⟨rfl, rfl, rfl, Nat.le_refl _, fun _ _ _ => rfl⟩
set_option maxRecDepth 100000 in
theorem only_drewN {a w : World} {row : Option Nat} (h : a.grownBy w row) (n : Nat) : a.grownBy (w.drewN n) row := ⟨h.os, h.tape, h.output, h.size, h.block⟩
set_option maxRecDepth 100000 in
theorem only_drew {a w : World} {row : Option Nat} (h : a.grownBy w row) : a.grownBy w.drew row := ⟨h.os, h.tape, h.output, h.size, h.block⟩
set_option maxRecDepth 100000 in
theorem only_alloc {a w : World} {row : Option Nat} (h : a.grownBy w row) (o : Obj) : a.grownBy (w.alloc o) row :=
  ⟨h.os, h.tape, h.output, Nat.le_trans h.size (by simp), fun i hi hne => (Below.heap_alloc w o i (Nat.lt_of_lt_of_le hi h.size)).trans (h.block i hi hne)⟩
set_option maxRecDepth 100000 in
theorem only_setCell {a w : World} {g : Nat} (h : a.grownBy w (some g)) {p : Addr} (hp : p.block = g ∨ a.heap.size ≤ p.block) (u : Value) : a.grownBy (w.setCell p u) (some g) :=
  ⟨h.os, h.tape, h.output, by simpa [World.setCell] using h.size, fun i hi hne => (Below.heap_setCell w p u i (by
    rintro rfl
    rcases hp with hp | hp
    · exact hne (by rw [hp])
    · omega)).trans (h.block i hi hne)⟩
set_option maxRecDepth 100000 in
theorem only_set {a w : World} {g : Nat} (h : a.grownBy w (some g)) (off : Nat) (u : Value) : a.grownBy (w.setCell ⟨g, off, none⟩ u) (some g) := only_setCell h (.inl rfl) u
set_option maxRecDepth 100000 in
theorem only_of_below {a w : World} (h : Below a.heap.size a w) (row : Option Nat) : a.grownBy w row := ⟨h.os, h.tape, h.output, h.size, fun i hi _ => h.block i hi⟩
set_option maxRecDepth 100000 in
theorem only_trans {a b c : World} {row : Option Nat} (h : a.grownBy b row) (k : b.grownBy c row) : a.grownBy c row :=
  ⟨k.os.trans h.os, k.tape.trans h.tape, k.output.trans h.output, Nat.le_trans h.size k.size, fun i hi hne => (k.block i (Nat.lt_of_lt_of_le hi h.size) hne).trans (h.block i hi hne)⟩
set_option maxRecDepth 100000 in
theorem only_setRow {a w : World} {g : Nat} (h : a.grownBy w (some g)) {b : Nat} (hp : b = g ∨ a.heap.size ≤ b) (cs : Array Value) : a.grownBy (w.setRow b cs) (some g) :=
  ⟨h.os, h.tape, h.output, by simpa using h.size, fun i hi hne => (setRow_other w b i cs (by
    rintro rfl
    rcases hp with hp | hp
    · exact hne (by rw [hp])
    · omega)).trans (h.block i hi hne)⟩
set_option maxRecDepth 100000 in
/-- The one row that may have been written is a new one: below it nothing has turned. -/
theorem below_of_only {B : Nat} {a w w' : World} {g : Nat} (h : Below B a w) (k : w.grownBy w' (some g)) (hB : B ≤ w.heap.size) (hg : B ≤ g) : Below B a w' :=
  h.grown k hB (fun i e => by injection e with e; omega)

set_option maxRecDepth 100000 in
theorem quiet_left {P : Program} {f : FuncId} {args : Array Value} {w : World} {n : Nat} {v : Value}
    (h : Calls P f args (w.drewN n) fun e w' => e = .returned v ∧ w.drewN n = w') : Calls P f args (w.drewN n) fun e w'' => e = .returned v ∧ ∃ m, w'' = w.drewN m :=
  h.mono fun _ _ ⟨he, hm⟩ => ⟨he, n, hm.symm⟩
/-! ### results of which the first lies in memory -/
section
variable {P : Program}
set_option maxRecDepth 100000 in
theorem results_row_tmp {fn : Func} {p u : Tmp} {ty : TypeId} (h : fn.results = #[.cell p ty, .tmp u]) (tmps : Array Value) (w : World) (g : Nat) (t : TypeId) (cs : Array Value) (fr : Nat × Nat) (d : TypeDesc) (x : Value)
    (hp : tmps.getD p undef = .pointer (some ⟨g, 0, none⟩)) (hx : tmps.getD u undef = x) (hg : w.heap[g]? = some (.cells cs t fr))
    (hu : P.underlying ty = some d) (hd : (match d with | .struct _ | .array _ _ => true | _ => false) = true) (hi : (P.info? ty).map (·.size) = some cs.size) :
    (results fn tmps).run P w = .ok (.tuple #[.agg cs, x]) w := by
  have hp' : tmps[p]?.getD undef = .pointer (some ⟨g, 0, none⟩) := by simpa using hp
  have hx' : tmps[u]?.getD undef = x := by simpa using hx
  simp [results, h, hp', hx', asAddr, Sem.run_bind, run_loadVar_row w g t ty cs fr d hg hu hd hi]
set_option maxRecDepth 100000 in
theorem results_row_tmp2 {fn : Func} {p u v : Tmp} {ty : TypeId} (h : fn.results = #[.cell p ty, .tmp u, .tmp v]) (tmps : Array Value) (w : World) (g : Nat) (t : TypeId) (cs : Array Value) (fr : Nat × Nat) (d : TypeDesc) (x y : Value)
    (hp : tmps.getD p undef = .pointer (some ⟨g, 0, none⟩)) (hx : tmps.getD u undef = x) (hy : tmps.getD v undef = y) (hg : w.heap[g]? = some (.cells cs t fr))
    (hu : P.underlying ty = some d) (hd : (match d with | .struct _ | .array _ _ => true | _ => false) = true) (hi : (P.info? ty).map (·.size) = some cs.size) :
    (results fn tmps).run P w = .ok (.tuple #[.agg cs, x, y]) w := by
  have hp' : tmps[p]?.getD undef = .pointer (some ⟨g, 0, none⟩) := by simpa using hp
  have hx' : tmps[u]?.getD undef = x := by simpa using hx
  have hy' : tmps[v]?.getD undef = y := by simpa using hy
  simp [results, h, hp', hx', hy', asAddr, Sem.run_bind, run_loadVar_row w g t ty cs fr d hg hu hd hi]
end
end Go.Proofs.Ytmfagdbocidfjaa

/- Rows whose elements are of any kind: a slice that reads as a list of cells, appended to. Lemmas alone. -/
namespace Go.Proofs.Ytmfagdbocidfjaa
open Go.RowKit
set_option maxRecDepth 100000 in
/-- cells set one by one -/
theorem setCells_blk (b : Nat) (T : TypeId) : ∀ (vs : List Value) (o : Nat) (w : World) (C : Array Value), w.heap[b]? = some (.cells C T (0, 0)) →
    ∃ C', (w.setCells b o vs).heap[b]? = some (.cells C' T (0, 0)) ∧ C'.size = C.size ∧ (∀ j, j < o ∨ o + vs.length ≤ j → C'[j]? = C[j]?) ∧ (∀ j, j < vs.length → o + j < C.size → C'[o + j]? = vs[j]?) ∧ w.grownBy (w.setCells b o vs) (some b)
  | [], o, w, C, h => ⟨C, h, rfl, fun _ _ => rfl, fun j hj => absurd hj (by simp), only_refl w _⟩
  | v :: vs, o, w, C, h => by
    have h1 := blk_set h o v
    obtain ⟨C', g1, g2, g3, g4, g5⟩ := setCells_blk b T vs (o + 1) (w.setCell ⟨b, o, none⟩ v) _ h1
    refine ⟨C', g1, by rw [g2]; simp, fun j hj => ?_, fun j hj hc => ?_, only_trans (only_set (only_refl w (some b)) o v) g5⟩
    · rw [g3 j (by simp only [List.length_cons] at hj; omega)]
      rw [Array.getElem?_setIfInBounds]
      rw [if_neg (by simp only [List.length_cons] at hj; omega)]
    · rcases j with _ | j
      · rw [g3 (o + 0) (by omega)]
        rw [Array.getElem?_setIfInBounds, if_pos (by omega)]
        simp
        omega
      · have := g4 j (by simp only [List.length_cons] at hj; omega) (by simp; omega)
        rw [show o + (j + 1) = o + 1 + j by omega, this]
        simp
/-- a slice of n elements of sz cells each, whose cells are xs: in one block, from some place on, with room as its capacity says -/
def VAt (W : World) (lo : Nat) (T : TypeId) (sz : Nat) (v : Value) (n : Nat) (xs : List Value) : Prop :=
  xs.length = n * sz ∧ (∀ u ∈ xs, u.oneCell' = true) ∧ ((v = .slice none 0 0 ∧ n = 0) ∨ ∃ b off cap C, v = .slice (some ⟨b, off, none⟩) n cap ∧ lo ≤ b ∧ W.heap[b]? = some (.cells C T (0, 0)) ∧ n ≤ cap ∧ cap ≤ maxLen ∧ (0 < cap → off + cap * sz ≤ C.size) ∧ ∀ j u, xs[j]? = some u → C[off + j]? = some u)
section
variable {W W' : World} {lo : Nat} {T : TypeId} {sz : Nat} {v : Value} {n : Nat} {xs : List Value}
set_option maxRecDepth 100000 in
theorem VAt.nil (W : World) (lo : Nat) (T : TypeId) (sz : Nat) : VAt W lo T sz (.slice none 0 0) 0 [] := ⟨by simp, by simp, .inl ⟨rfl, rfl⟩⟩
set_option maxRecDepth 100000 in
theorem VAt.kept (h : VAt W lo T sz v n xs) (e : ∀ b, v.ownBlock = some b → W'.heap[b]? = W.heap[b]?) : VAt W' lo T sz v n xs := by
  refine ⟨h.1, h.2.1, ?_⟩
  rcases h.2.2 with h | ⟨b, off, cap, C, rfl, h2, h3, h4⟩
  · exact .inl h
  · exact .inr ⟨b, off, cap, C, rfl, h2, (e b rfl).trans h3, h4⟩
set_option maxRecDepth 100000 in
theorem VAt.lt (h : VAt W lo T sz v n xs) : ∀ b, v.ownBlock = some b → lo ≤ b ∧ ∃ C, W.heap[b]? = some (.cells C T (0, 0)) := by
  intro b hb
  rcases h.2.2 with ⟨rfl, _⟩ | ⟨b', off, cap, C, rfl, h2, h3, _⟩
  · cases hb
  · injection hb with hb
    subst hb
    exact ⟨h2, C, h3⟩
set_option maxRecDepth 100000 in
theorem VAt.blt (h : VAt W lo T sz v n xs) : ∀ b, v.ownBlock = some b → b < W.heap.size := fun b hb => by
  obtain ⟨_, C, hC⟩ := h.lt b hb
  exact (Array.getElem?_eq_some_iff.1 hC).1
set_option maxRecDepth 100000 in
theorem VAt.below (h : VAt W lo T sz v n xs) (hb : Below W.heap.size W W') : VAt W' lo T sz v n xs := h.kept (fun b hb' => hb.block b (h.blt b hb'))
set_option maxRecDepth 100000 in
theorem VAt.form (h : VAt W lo T sz v n xs) : ∃ s cap, v = .slice s n cap ∧ n ≤ cap ∧ cap ≤ maxLen := by
  rcases h.2.2 with ⟨rfl, rfl⟩ | ⟨b, off, cap, C, rfl, _, _, h4, h5, _⟩
  · exact ⟨_, _, rfl, Nat.le_refl _, by unfold maxLen; omega⟩
  · exact ⟨_, _, rfl, h4, h5⟩
set_option maxRecDepth 100000 in
theorem VAt.cells (h : VAt W lo T sz v n xs) {b off k cap : Nat} (hv : v = .slice (some ⟨b, off, none⟩) k cap) : ∀ j u, xs[j]? = some u → W.cell? ⟨b, off + j, none⟩ = some u := fun j u hj => by
  rcases h.2.2 with ⟨rfl, _⟩ | ⟨b', off', cap', C, rfl, _, h3, _, _, _, h7⟩
  · cases hv
  · injection hv with hv
    injection hv with hv
    injection hv with e1 e2
    subst e1 e2
    rw [cell_of_block h3]
    exact h7 j u hj
set_option maxRecDepth 100000 in
theorem VAt.base (h : VAt W lo T sz v n xs) {lo' : Nat} (hl : lo' ≤ lo) : VAt W lo' T sz v n xs := by
  refine ⟨h.1, h.2.1, ?_⟩
  rcases h.2.2 with h | ⟨b, off, cap, C, rfl, h2, h3⟩
  · exact .inl h
  · exact .inr ⟨b, off, cap, C, rfl, by omega, h3⟩
set_option maxRecDepth 100000 in
theorem VAt.own (h : W.ownsRow lo T sz v n xs) (h1 : ∀ u ∈ xs, u.oneCell' = true) : VAt W lo T sz v n xs := by
  refine ⟨h.1, h1, ?_⟩
  rcases h.2 with h2 | ⟨b, cap, cur, rfl, hb, hcur, hle, hcm, hcs, htk⟩
  · exact .inl h2
  · refine .inr ⟨b, 0, cap, cur, rfl, hb, hcur, hle, hcm, fun _ => by omega, fun j u hj => ?_⟩
    rw [← htk, List.getElem?_take] at hj
    split at hj
    · rw [Nat.zero_add, ← Array.getElem?_toList]; exact hj
    · cases hj
end
set_option maxRecDepth 100000 in
/-- append(v, ..): the cells ys of m elements, which lie at ad -/
theorem v_app {P : Program} {S T : TypeId} {z : Value} {sz bytes : Nat} (hS : P.underlying S = some (.slice T)) (hI : (P.info? T).map (fun i => (i.zero, i.size, i.bytes)) = some (some z, sz, bytes)) (hzs : z.cells.size = sz) (hsz : 0 < sz) (hby : bytes ≤ 10000)
    {W : World} {lo : Nat} {v : Value} {n : Nat} {xs : List Value} (h : VAt W lo T sz v n xs) (hlo : lo ≤ W.heap.size) (ad : Addr) (m c : Nat) (ys : List Value) (hl : ys.length = m * sz) (hnews : ∀ j u, ys[j]? = some u → W.cell? (ad.add j) = some u) (h1c : ∀ u ∈ ys, u.oneCell' = true) (hnm : n + m ≤ 1000000) (ty : TypeId) :
    ∃ v' W', (Builtin.append_ #[S, S] ty #[v, .slice (some ad) m c]).run P W = .ok v' W' ∧ VAt W' lo T sz v' (n + m) (xs ++ ys) ∧ W.grownBy W' v.ownBlock ∧ (∀ b, v'.ownBlock = some b → v.ownBlock = some b ∨ W.heap.size ≤ b) ∧
      ((∀ s k cap, v = .slice s k cap → cap < n + m) → Below W.heap.size W W' ∧ ∀ b, v'.ownBlock = some b → W.heap.size ≤ b) := by
  obtain ⟨i0, hi, hz0, hz1, hz2⟩ : ∃ i, P.info? T = some i ∧ i.zero = some z ∧ i.size = sz ∧ i.bytes = bytes := by
    rcases hh : P.info? T with _ | i
    · rw [hh] at hI; cases hI
    · rw [hh] at hI
      simp only [Option.map_some, Option.some.injEq, Prod.mk.injEq] at hI
      exact ⟨i, rfl, hI.1, hI.2.1, hI.2.2⟩
  have h1 : ∀ u ∈ xs ++ ys, u.oneCell' = true := fun u hu => by
    rcases List.mem_append.1 hu with hu | hu
    · exact h.2.1 u hu
    · exact h1c u hu
  have hbyt : (n + m) * bytes ≤ 140737488355328 := Nat.le_trans (Nat.mul_le_mul hnm hby) (by omega)
  have hbel : ∀ W', W.grownBy W' none → Below W.heap.size W W' := fun W' hg => ⟨hg.os, hg.tape, hg.output, hg.size, fun i hi => hg.block i hi (by simp)⟩
  have hnb : ∀ W', W.grownBy W' none → W.grownBy W' v.ownBlock := fun W' hg => ⟨hg.os, hg.tape, hg.output, hg.size, fun i hi _ => hg.block i hi (by simp)⟩
  have hlen := h.1
  rcases h.2.2 with ⟨rfl, rfl⟩ | ⟨b, off, cap, C, rfl, h2, h3, h4, h5, h6, h7⟩
  · obtain rfl : xs = [] := List.length_eq_zero_iff.1 (by simpa using hlen)
    obtain ⟨v', W', hr, ho, hgr, _⟩ := run_append_own (P := P) W W.heap.size S ty T i0 z sz bytes hS hi hz0 hz1 hz2 hzs hsz _ 0 _ (World.ownsRow_nil _ _ _ _) ad m c ys hl hnews h1c (by unfold maxLen; omega) hbyt (Nat.le_refl _)
    exact ⟨v', W', hr, (VAt.own ho h1).base hlo, hgr, fun p hp => .inr ((VAt.own ho h1).lt p hp).1, fun _ => ⟨hbel _ hgr, fun p hp => ((VAt.own ho h1).lt p hp).1⟩⟩
  · by_cases hroom : n + m ≤ cap
    · have hle : n * sz + m * sz ≤ cap * sz := by rw [← Nat.add_mul]; exact Nat.mul_le_mul_right _ hroom
      have hr := run_append_room_cells (P := P) W S ty T i0 hS hi b off n cap ad m c ys (by rw [hl, hz1]) hnews h1c hroom
        (fun j hj => by
          rw [hl] at hj
          have hsz2 := h6 (by
            rcases Nat.eq_zero_or_pos cap with e | e
            · subst e
              obtain rfl : m = 0 := by omega
              omega
            · exact e)
          rw [hz1, cell_of_block h3]; simp; omega) (fun j _ => frozen_of_row _ _ _ _ _ h3)
      rw [hz1] at hr
      obtain ⟨C', g1, g2, g3, g4, g5⟩ := setCells_blk b _ ys (off + n * sz) W C h3
      refine ⟨_, _, hr, ⟨by rw [List.length_append, hlen, hl, Nat.add_mul], h1, .inr ⟨b, off, cap, C', rfl, h2, g1, hroom, h5, fun hc => by rw [g2]; exact h6 hc, fun j u hj => ?_⟩⟩, g5, fun p hp => .inl hp, fun hno => absurd (hno _ _ _ rfl) (by omega)⟩
      by_cases hjl : j < n * sz
      · rw [List.getElem?_append_left (by rw [hlen]; exact hjl)] at hj
        rw [g3 _ (.inl (by omega))]
        exact h7 j u hj
      · rw [List.getElem?_append_right (by rw [hlen]; omega), hlen] at hj
        have hj2 := (List.getElem?_eq_some_iff.1 hj).1
        have hj3 := hj2
        rw [hl] at hj3
        have hsz2 := h6 (by
          rcases Nat.eq_zero_or_pos cap with e | e
          · subst e
            obtain rfl : m = 0 := by omega
            omega
          · exact e)
        have := g4 (j - n * sz) hj2 (by omega)
        rw [show off + n * sz + (j - n * sz) = off + j by omega] at this
        rw [this]
        exact hj
    · obtain ⟨v', W', hr, ho, hgr⟩ := run_append_arg_grows (P := P) W S ty T i0 z sz bytes hS hi hz0 hz1 hz2 hzs hsz ⟨b, off, none⟩ n cap xs hlen
        (fun j u hj => by
          have : W.cell? ⟨b, off + j, none⟩ = some u := by rw [cell_of_block h3]; exact h7 j u hj
          by_cases hj0 : j = 0
          · subst hj0; simpa [Addr.add] using this
          · simpa [Addr.add, hj0] using this) ad m c ys hl hnews (by omega) (by unfold maxLen; omega) hbyt
      exact ⟨v', W', hr, (VAt.own ho h1).base hlo, hnb _ hgr, fun p hp => .inr ((VAt.own ho h1).lt p hp).1, fun _ => ⟨hbel _ hgr, fun p hp => ((VAt.own ho h1).lt p hp).1⟩⟩
end Go.Proofs.Ytmfagdbocidfjaa

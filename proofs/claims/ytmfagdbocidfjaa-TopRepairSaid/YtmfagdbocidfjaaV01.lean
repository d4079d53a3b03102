import Derived.Test.YtmfagdbocidfjaaRows
import Derived.WalkKit
import Derived.ProofKit
import Derived.OpenShut
import Derived.WalkLawsBesides
import Derived.WalkSpells
import Derived.Lib.Hide
import Derived.Outline
import Derived.Deep.QuietTactic
import Derived.BigQuiet
import Derived.BigRegion
import Derived.Deep.LoopGhost
import Derived.Laws.BitsAllLaws
import Derived.Below
import Derived.Carry
import Derived.Deep.DeepCutAuto
import Derived.Deep.DeepMust
import Derived.Deep.DeepFit
import Derived.OwnWalk
import Derived.Laws.Rows
import Derived.Laws.CopyOwn
/- Small lemmas that the walks of this seat share: worlds, arrays, bits of numbers, what a walk is told of a slice that came in. Lemmas alone; nothing here is a statement of the seat. -/
namespace Go.Proofs.Ytmfagdbocidfjaa
open Go.RowKit Go.ChangeShapes Go.WideShapes Go.ChangeAt

set_option maxRecDepth 100000 in
theorem hide {p : Prop} (h : p) : Hid p := h
set_option maxRecDepth 100000 in
theorem below_drewN {B : Nat} {a w : World} (h : Below B a w) (n : Nat) : Below B a (w.drewN n) := ⟨h.os, h.tape, h.output, h.size, h.block⟩
set_option maxRecDepth 100000 in
theorem sc_drewN (w : World) (c : Array Value) (T : TypeId) (n off : Nat) (v : Value) :
    ((w.alloc (.cells c T)).drewN n).setCell ⟨w.heap.size, off, none⟩ v = (w.alloc (.cells (c.setIfInBounds off v) T)).drewN n := by
  have h := World.setCell_alloc_new (w := w) c T off v
  have h2 : ((w.alloc (.cells c T)).drewN n).setCell ⟨w.heap.size, off, none⟩ v = ((w.alloc (.cells c T)).setCell ⟨w.heap.size, off, none⟩ v).drewN n := rfl
  rw [h2, h]
set_option maxRecDepth 100000 in
theorem arr_at (c : Array Value) (i n : Nat) (hs : c.size = n) (h : i < n) : ∃ v, c[i]? = some v :=
  ⟨_, Array.getElem?_eq_getElem (by rw [hs]; exact h)⟩
set_option maxRecDepth 100000 in
theorem ofInt_i64 (a : Nat) (ha : a < 9223372036854775808) : (BitVec.ofInt 64 (a : Int)).toNat = a := by
  rw [BitVec.ofInt_natCast, BitVec.toNat_ofNat]; exact Nat.mod_eq_of_lt (by omega)
set_option maxRecDepth 100000 in
theorem i64_xor_nat (a b : Nat) (ha : a < 9223372036854775808) (hb : b < 9223372036854775808) : bits .xor .i64 (a : Int) (b : Int) = ((a ^^^ b : Nat) : Int) := by
  have hx : a ^^^ b < 2 ^ 63 := Nat.xor_lt_two_pow (by omega) (by omega)
  show IntKind.i64.wrap ((BitVec.ofInt 64 (a : Int) ^^^ BitVec.ofInt 64 (b : Int)).toNat : Int) = _
  rw [BitVec.toNat_xor, ofInt_i64 a ha, ofInt_i64 b hb, IntKind.wrap_i64]
  omega
set_option maxRecDepth 100000 in
theorem cast_pow (x k : Nat) : (x : Int) / 2 ^ k = ((x / 2 ^ k : Nat) : Int) := by simp
set_option maxRecDepth 100000 in
theorem tmod2 (x : Nat) : ((x : Int).tmod 2 == 1) = decide (x % 2 = 1) := by
  rw [Int.tmod_eq_emod_of_nonneg (by omega)]
  rw [Bool.eq_iff_iff]
  simp
  omega
set_option maxRecDepth 100000 in
theorem u8_nat {a : Int} (h : (Lit.int .u8 a).wf = true) : ∃ n : Nat, a = n ∧ n < 256 := by
  have hx : 0 ≤ a ∧ a ≤ 255 := by simpa [Lit.wf, IntKind.min, IntKind.max, IntKind.signed, IntKind.bits] using h
  exact ⟨a.toNat, by omega, by omega⟩
set_option maxRecDepth 100000 in
theorem i64_bd {a : Int} (h : (Lit.int .i64 a).wf = true) : -9223372036854775808 ≤ a ∧ a ≤ 9223372036854775807 := by
  simpa [Lit.wf, IntKind.min, IntKind.max, IntKind.signed, IntKind.bits] using h
set_option maxRecDepth 100000 in
theorem u32_nat {a : Int} (h : (Lit.int .u32 a).wf = true) : ∃ n : Nat, a = n ∧ n < 4294967296 := by
  have hx : 0 ≤ a ∧ a ≤ 4294967295 := by simpa [Lit.wf, IntKind.min, IntKind.max, IntKind.signed, IntKind.bits] using h
  exact ⟨a.toNat, by omega, by omega⟩
set_option maxRecDepth 100000 in
theorem u64_nat {a : Int} (h : (Lit.int .u64 a).wf = true) : ∃ n : Nat, a = n ∧ n < 18446744073709551616 := by
  have hx : 0 ≤ a ∧ a ≤ 18446744073709551615 := by simpa [Lit.wf, IntKind.min, IntKind.max, IntKind.signed, IntKind.bits] using h
  exact ⟨a.toNat, by omega, by omega⟩
set_option maxRecDepth 100000 in
theorem ret_int {k : IntKind} {a b : Int} (h : a = b) : Ending.returned (.int k a) = .returned (.int k b) := by rw [h]
set_option maxRecDepth 100000 in
theorem ret_bool {a b : Bool} (h : a = b) : Ending.returned (.bool a) = .returned (.bool b) := by rw [h]

/-- What a walk is told of a slice of integers that came in: it is nil; or it leads to a row of 'cap' cells, the numbers 'zs' (the first 'len' are its elements, the rest its spare room), each fitting its kind. -/
def IsRow (k : IntKind) (w : World) (a : Option Addr) (len cap : Nat) (zs : List Int) : Prop :=
  (a = none ∧ len = 0 ∧ cap = 0 ∧ zs = []) ∨
  ∃ x, a = some x ∧ len ≤ cap ∧ cap ≤ maxLen ∧ zs.length = cap ∧ (∀ i, i < zs.length → w.cell? (x.add i) = some (.int k (zs.getD i 0))) ∧ ∀ n ∈ zs, (Lit.int k n).wf = true

set_option maxRecDepth 100000 in
theorem cell_of_block {w : World} {b i : Nat} {c : Array Value} {T : TypeId} {fr : Nat × Nat} (h : w.heap[b]? = some (.cells c T fr)) : w.cell? ⟨b, i, none⟩ = c[i]? := by
  simp [World.cell?, h]
set_option maxRecDepth 100000 in
theorem cell_block_lt {w : World} {a : Addr} {v : Value} (h : w.cell? a = some v) : a.block < w.heap.size := by
  unfold World.cell? at h
  split at h
  · rename_i heq
    exact (Array.getElem?_eq_some_iff.1 heq).1
  · cases h

/-- A slice of numbers of kind k reads as the list l: each element's cell holds its number. (Nil where l is empty, or not.) -/
def SlN (k : IntKind) (w : World) (s : Option Addr) (l : List Nat) : Prop := ∀ i x, l[i]? = some x → ∃ b off, s = some ⟨b, off, none⟩ ∧ w.cell? ⟨b, off + i, none⟩ = some (.int k (x : Nat))
set_option maxRecDepth 100000 in
theorem SlN.drewN {k : IntKind} {w : World} {s : Option Addr} {l : List Nat} (h : SlN k w s l) (n : Nat) : SlN k (w.drewN n) s l := h
set_option maxRecDepth 100000 in
theorem SlN.alloc {k : IntKind} {w : World} {s : Option Addr} {l : List Nat} (h : SlN k w s l) (o : Obj) : SlN k (w.alloc o) s l := by
  intro i x hx
  obtain ⟨b, off, hs, hc⟩ := h i x hx
  exact ⟨b, off, hs, (World.cell?_of_block (w := w) (Below.heap_alloc w o b (cell_block_lt hc))).trans hc⟩
set_option maxRecDepth 100000 in
theorem SlN.below {k : IntKind} {w w' : World} {s : Option Addr} {l : List Nat} (h : SlN k w s l) (hb : Below w.heap.size w w') : SlN k w' s l := by
  intro i x hx
  obtain ⟨b, off, hs, hc⟩ := h i x hx
  exact ⟨b, off, hs, by rw [hb.cell (p := ⟨b, off + i, none⟩) (cell_block_lt hc)]; exact hc⟩
set_option maxRecDepth 100000 in
/-- A block of numbers, known whole, reads as its numbers. -/
theorem SlN.lit (k : IntKind) {w : World} {b : Nat} (l : List Nat) {T : TypeId} {c : Array Value} {fr : Nat × Nat} (h : w.heap[b]? = some (.cells c T fr)) (hc : c.toList = l.map fun x => .int k (x : Nat)) : SlN k w (some ⟨b, 0, none⟩) l := by
  intro i x hx
  refine ⟨_, _, rfl, ?_⟩
  rw [cell_of_block h, ← Array.getElem?_toList, hc, Nat.zero_add]
  simp [hx]
set_option maxRecDepth 100000 in
/-- The block that was made last. -/
theorem last_block (w : World) (o : Obj) (n b : Nat) (hb : b = w.heap.size) : ((w.alloc o).drewN n).heap[b]? = some o := by
  show (w.heap.push _)[b]? = _
  rw [hb]; simp
set_option maxRecDepth 100000 in
theorem last_block0 (w : World) (o : Obj) (b : Nat) (hb : b = w.heap.size) : (w.alloc o).heap[b]? = some o := by
  show (w.heap.push _)[b]? = _
  rw [hb]; simp
set_option maxRecDepth 100000 in
/-- An argument that is a slice of integers, opened. -/
theorem isRow_open {H : Type} {enc : TypeId × Value → H} {P : Program} {W : World} {t e : TypeId} {k : IntKind} {a : Option Addr} {len cap : Nat} {d : DataW H} {p : List MemPlace}
    (ht : P.underlying t = some (.slice e)) (he : P.underlying e = some (.int k)) (hc : P.cellsOf e = 1)
    (h : DataW.Trod enc P W 0 (fun _ => true) true t (.slice a len cap) d p) : ∃ zs, IsRow k W a len cap zs := by
  obtain ⟨fuel, hf⟩ := h
  rcases open_ints ht he hc hf with ⟨hcs, _⟩ | ⟨x, l, c, zs, hcs, _, hl, hm, hz, _, hcell, hwz⟩
  · simp [Value.cells] at hcs
    obtain ⟨rfl, rfl, rfl⟩ := hcs
    exact ⟨[], .inl ⟨rfl, rfl, rfl, rfl⟩⟩
  · simp [Value.cells] at hcs
    obtain ⟨rfl, rfl, rfl⟩ := hcs
    refine ⟨zs, .inr ⟨x, rfl, hl, hm, by simpa using hz, hcell, hwz⟩⟩
set_option maxRecDepth 100000 in
theorem add_none (b off i : Nat) : (⟨b, off, none⟩ : Addr).add i = ⟨b, off + i, none⟩ := by unfold Addr.add; split <;> simp_all
set_option maxRecDepth 100000 in
theorem row_addr {k : IntKind} {w : World} {x : Addr} {zs : List Int} (hcell : ∀ i, i < zs.length → w.cell? (x.add i) = some (.int k (zs.getD i 0))) {i : Nat} (hi : i < zs.length) :
    ∃ b off, x = ⟨b, off, none⟩ := by
  have h0 := hcell 0 (by omega)
  obtain ⟨b, off, spot⟩ := x
  have hspot : spot = none := by simpa [Addr.add] using World.cell?_spot h0
  subst hspot
  exact ⟨b, off, rfl⟩
set_option maxRecDepth 100000 in
/-- As a list of natural numbers: for the kinds without a sign. -/
theorem isRow_nat {k : IntKind} {w : World} {a : Option Addr} {len cap : Nat} {zs : List Int} (h : IsRow k w a len cap zs) (B : Nat) (hk : ∀ n : Int, (Lit.int k n).wf = true → 0 ≤ n ∧ n < B) :
    ∃ l : List Nat, l.length = len ∧ len ≤ cap ∧ cap ≤ maxLen ∧ (∀ x ∈ l, x < B) ∧ SlN k w a l := by
  rcases h with ⟨rfl, rfl, rfl, rfl⟩ | ⟨x, rfl, hl, hm, hz, hcell, hwz⟩
  · exact ⟨[], rfl, Nat.le_refl _, by unfold maxLen; omega, by simp, fun i x hx => by simp at hx⟩
  · refine ⟨(zs.take len).map Int.toNat, by simp; omega, hl, hm, ?_, ?_⟩
    · intro y hy
      obtain ⟨n, hn, rfl⟩ := List.mem_map.1 hy
      have := hk n (hwz n (List.mem_of_mem_take hn))
      omega
    · intro i y hy
      rw [List.getElem?_map] at hy
      rcases hq : (zs.take len)[i]? with _ | n
      · rw [hq] at hy; cases hy
      · rw [hq] at hy
        simp only [Option.map_some, Option.some.injEq] at hy
        have hi : i < (zs.take len).length := (List.getElem?_eq_some_iff.1 hq).1
        have hzi : zs[i]? = some n := by
          rw [List.getElem?_take] at hq
          split at hq
          · exact hq
          · cases hq
        have hn := hk n (hwz n (List.mem_of_getElem? hzi))
        have hc := hcell i (by simp at hi; omega)
        rw [List.getD_eq_getElem?_getD, hzi] at hc
        obtain ⟨b, off, rfl⟩ := row_addr hcell (i := i) (by simp at hi; omega)
        refine ⟨b, off, rfl, ?_⟩
        have e : (y : Int) = n := by omega
        rw [e, ← add_none]
        simpa using hc
set_option maxRecDepth 100000 in
theorem isRow_none {k : IntKind} {w : World} {len cap : Nat} {zs : List Int} (h : IsRow k w none len cap zs) : len = 0 ∧ cap = 0 := by
  rcases h with ⟨_, h1, h2, _⟩ | ⟨x, hx, _⟩
  · exact ⟨h1, h2⟩
  · cases hx
set_option maxRecDepth 100000 in
theorem SlN.block_lt {k : IntKind} {w : World} {s : Option Addr} {l : List Nat} (h : SlN k w s l) (hl : l ≠ []) : ∃ b off, s = some ⟨b, off, none⟩ ∧ b < w.heap.size := by
  cases l with
  | nil => exact absurd rfl hl
  | cons x r =>
    obtain ⟨b, off, hs, hc⟩ := h 0 x rfl
    exact ⟨b, off, hs, cell_block_lt hc⟩
/-- As a list of integers. -/
def SlZ (k : IntKind) (w : World) (s : Option Addr) (l : List Int) : Prop := ∀ i x, l[i]? = some x → ∃ b off, s = some ⟨b, off, none⟩ ∧ w.cell? ⟨b, off + i, none⟩ = some (.int k x)
set_option maxRecDepth 100000 in
theorem SlZ.drewN {k : IntKind} {w : World} {s : Option Addr} {l : List Int} (h : SlZ k w s l) (n : Nat) : SlZ k (w.drewN n) s l := h
set_option maxRecDepth 100000 in
theorem SlZ.below {k : IntKind} {w w' : World} {s : Option Addr} {l : List Int} (h : SlZ k w s l) (hb : Below w.heap.size w w') : SlZ k w' s l := by
  intro i x hx
  obtain ⟨b, off, hs, hc⟩ := h i x hx
  exact ⟨b, off, hs, by rw [hb.cell (p := ⟨b, off + i, none⟩) (cell_block_lt hc)]; exact hc⟩
set_option maxRecDepth 100000 in
theorem isRow_int {k : IntKind} {w : World} {a : Option Addr} {len cap : Nat} {zs : List Int} (h : IsRow k w a len cap zs) :
    ∃ l : List Int, l.length = len ∧ len ≤ cap ∧ cap ≤ maxLen ∧ (∀ x ∈ l, (Lit.int k x).wf = true) ∧ SlZ k w a l := by
  rcases h with ⟨rfl, rfl, rfl, rfl⟩ | ⟨x, rfl, hl, hm, hz, hcell, hwz⟩
  · exact ⟨[], rfl, Nat.le_refl _, by unfold maxLen; omega, by simp, fun i x hx => by simp at hx⟩
  · refine ⟨zs.take len, by simp; omega, hl, hm, fun y hy => hwz y (List.mem_of_mem_take hy), ?_⟩
    intro i y hy
    have hi : i < (zs.take len).length := (List.getElem?_eq_some_iff.1 hy).1
    have hzi : zs[i]? = some y := by
      rw [List.getElem?_take] at hy
      split at hy
      · exact hy
      · cases hy
    have hc := hcell i (by simp at hi; omega)
    rw [List.getD_eq_getElem?_getD, hzi] at hc
    obtain ⟨b, off, rfl⟩ := row_addr hcell (i := i) (by simp at hi; omega)
    exact ⟨b, off, rfl, by rw [← add_none]; simpa using hc⟩
set_option maxRecDepth 100000 in
theorem u8_bd (n : Int) (h : (Lit.int .u8 n).wf = true) : 0 ≤ n ∧ n < (256 : Nat) := by
  obtain ⟨m, rfl, hm⟩ := u8_nat h; omega
set_option maxRecDepth 100000 in
theorem u32_bd (n : Int) (h : (Lit.int .u32 n).wf = true) : 0 ≤ n ∧ n < (4294967296 : Nat) := by
  obtain ⟨m, rfl, hm⟩ := u32_nat h; omega

/-! ### facts on a block in a world that turns; what but one block, and what is new, has stayed -/
set_option maxRecDepth 100000 in
theorem blk_alloc {w : World} {b : Nat} {o : Obj} (h : w.heap[b]? = some o) (o' : Obj) : (w.alloc o').heap[b]? = some o :=
  (Below.heap_alloc w o' b (Array.getElem?_eq_some_iff.1 h).1).trans h
set_option maxRecDepth 100000 in
theorem blk_drewN {w : World} {b : Nat} {o : Obj} (h : w.heap[b]? = some o) (n : Nat) : (w.drewN n).heap[b]? = some o := h
set_option maxRecDepth 100000 in
theorem blk_drew {w : World} {b : Nat} {o : Obj} (h : w.heap[b]? = some o) : w.drew.heap[b]? = some o := h
set_option maxRecDepth 100000 in
theorem blk_set {w : World} {b : Nat} {c : Array Value} {T : TypeId} (h : w.heap[b]? = some (.cells c T (0, 0))) (off : Nat) (v : Value) : (w.setCell ⟨b, off, none⟩ v).heap[b]? = some (.cells (c.setIfInBounds off v) T (0, 0)) :=
  heap_setCell_same w b off c T v h
set_option maxRecDepth 100000 in
theorem blk_set_other {w : World} {b b' : Nat} {o : Obj} (h : w.heap[b]? = some o) (hne : b ≠ b') (off : Nat) (v : Value) : (w.setCell ⟨b', off, none⟩ v).heap[b]? = some o :=
  (heap_setCell_other w ⟨b', off, none⟩ b v hne).trans h
set_option maxRecDepth 100000 in
theorem frozen_blk {w : World} {b off : Nat} {c : Array Value} {T : TypeId} (h : w.heap[b]? = some (.cells c T (0, 0))) : w.frozen? ⟨b, off, none⟩ = false := frozen_of_row w b off c T h
set_option maxRecDepth 100000 in
theorem only_refl (w : World) (row : Option Nat) : w.grownBy w row := ⟨rfl, rfl, rfl, Nat.le_refl _, fun _ _ _ => rfl⟩
set_option maxRecDepth 100000 in
theorem only_drewN {a w : World} {row : Option Nat} (h : a.grownBy w row) (n : Nat) : a.grownBy (w.drewN n) row := ⟨h.os, h.tape, h.output, h.size, h.block⟩
set_option maxRecDepth 100000 in
theorem only_drew {a w : World} {row : Option Nat} (h : a.grownBy w row) : a.grownBy w.drew row := ⟨h.os, h.tape, h.output, h.size, h.block⟩
set_option maxRecDepth 100000 in
theorem only_alloc {a w : World} {row : Option Nat} (h : a.grownBy w row) (o : Obj) : a.grownBy (w.alloc o) row :=
  ⟨h.os, h.tape, h.output, Nat.le_trans h.size (by simp), fun i hi hne => (Below.heap_alloc w o i (Nat.lt_of_lt_of_le hi h.size)).trans (h.block i hi hne)⟩
set_option maxRecDepth 100000 in
theorem only_setCell {a w : World} {g : Nat} (h : a.grownBy w (some g)) {p : Addr} (hp : p.block = g ∨ a.heap.size ≤ p.block) (u : Value) : a.grownBy (w.setCell p u) (some g) :=
  ⟨h.os, h.tape, h.output, by simpa [World.setCell] using h.size, fun i hi hne => (Below.heap_setCell w p u i (by
    rintro rfl
    rcases hp with hp | hp
    · exact hne (by rw [hp])
    · omega)).trans (h.block i hi hne)⟩
set_option maxRecDepth 100000 in
theorem only_set {a w : World} {g : Nat} (h : a.grownBy w (some g)) (off : Nat) (u : Value) : a.grownBy (w.setCell ⟨g, off, none⟩ u) (some g) := only_setCell h (.inl rfl) u
set_option maxRecDepth 100000 in
theorem only_of_below {a w : World} (h : Below a.heap.size a w) (row : Option Nat) : a.grownBy w row := ⟨h.os, h.tape, h.output, h.size, fun i hi _ => h.block i hi⟩
set_option maxRecDepth 100000 in
theorem only_trans {a b c : World} {row : Option Nat} (h : a.grownBy b row) (k : b.grownBy c row) : a.grownBy c row :=
  ⟨k.os.trans h.os, k.tape.trans h.tape, k.output.trans h.output, Nat.le_trans h.size k.size, fun i hi hne => (k.block i (Nat.lt_of_lt_of_le hi h.size) hne).trans (h.block i hi hne)⟩
set_option maxRecDepth 100000 in
theorem only_setRow {a w : World} {g : Nat} (h : a.grownBy w (some g)) {b : Nat} (hp : b = g ∨ a.heap.size ≤ b) (cs : Array Value) : a.grownBy (w.setRow b cs) (some g) :=
  ⟨h.os, h.tape, h.output, by simpa using h.size, fun i hi hne => (setRow_other w b i cs (by
    rintro rfl
    rcases hp with hp | hp
    · exact hne (by rw [hp])
    · omega)).trans (h.block i hi hne)⟩
set_option maxRecDepth 100000 in
/-- The one row that may have been written is a new one: below it nothing has turned. -/
theorem below_of_only {B : Nat} {a w w' : World} {g : Nat} (h : Below B a w) (k : w.grownBy w' (some g)) (hB : B ≤ w.heap.size) (hg : B ≤ g) : Below B a w' :=
  h.grown k hB (fun i e => by injection e with e; omega)

set_option maxRecDepth 100000 in
theorem quiet_left {P : Program} {f : FuncId} {args : Array Value} {w : World} {n : Nat} {v : Value}
    (h : Calls P f args (w.drewN n) fun e w' => e = .returned v ∧ w.drewN n = w') : Calls P f args (w.drewN n) fun e w'' => e = .returned v ∧ ∃ m, w'' = w.drewN m :=
  h.mono fun _ _ ⟨he, hm⟩ => ⟨he, n, hm.symm⟩
/-! ### results of which the first lies in memory -/
section
variable {P : Program}
set_option maxRecDepth 100000 in
theorem results_row_tmp {fn : Func} {p u : Tmp} {ty : TypeId} (h : fn.results = #[.cell p ty, .tmp u]) (tmps : Array Value) (w : World) (g : Nat) (t : TypeId) (cs : Array Value) (fr : Nat × Nat) (d : TypeDesc) (x : Value)
    (hp : tmps.getD p undef = .pointer (some ⟨g, 0, none⟩)) (hx : tmps.getD u undef = x) (hg : w.heap[g]? = some (.cells cs t fr))
    (hu : P.underlying ty = some d) (hd : (match d with | .struct _ | .array _ _ => true | _ => false) = true) (hi : (P.info? ty).map (·.size) = some cs.size) :
    (results fn tmps).run P w = .ok (.tuple #[.agg cs, x]) w := by
  have hp' : tmps[p]?.getD undef = .pointer (some ⟨g, 0, none⟩) := by simpa using hp
  have hx' : tmps[u]?.getD undef = x := by simpa using hx
  simp [results, h, hp', hx', asAddr, Sem.run_bind, run_loadVar_row w g t ty cs fr d hg hu hd hi]
set_option maxRecDepth 100000 in
theorem results_row_tmp2 {fn : Func} {p u v : Tmp} {ty : TypeId} (h : fn.results = #[.cell p ty, .tmp u, .tmp v]) (tmps : Array Value) (w : World) (g : Nat) (t : TypeId) (cs : Array Value) (fr : Nat × Nat) (d : TypeDesc) (x y : Value)
    (hp : tmps.getD p undef = .pointer (some ⟨g, 0, none⟩)) (hx : tmps.getD u undef = x) (hy : tmps.getD v undef = y) (hg : w.heap[g]? = some (.cells cs t fr))
    (hu : P.underlying ty = some d) (hd : (match d with | .struct _ | .array _ _ => true | _ => false) = true) (hi : (P.info? ty).map (·.size) = some cs.size) :
    (results fn tmps).run P w = .ok (.tuple #[.agg cs, x, y]) w := by
  have hp' : tmps[p]?.getD undef = .pointer (some ⟨g, 0, none⟩) := by simpa using hp
  have hx' : tmps[u]?.getD undef = x := by simpa using hx
  have hy' : tmps[v]?.getD undef = y := by simpa using hy
  simp [results, h, hp', hx', hy', asAddr, Sem.run_bind, run_loadVar_row w g t ty cs fr d hg hu hd hi]
end
end Go.Proofs.Ytmfagdbocidfjaa

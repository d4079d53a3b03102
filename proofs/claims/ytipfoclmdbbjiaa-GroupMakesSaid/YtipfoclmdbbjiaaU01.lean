import Derived.Test.YtipfoclmdbbjiaaRows
import Derived.WalkKit
import Derived.ProofKit
import Derived.OpenShut
import Derived.WalkLawsBesides
import Derived.WalkSpells
import Derived.Lib.Hide
import Derived.Outline
import Derived.Deep.QuietTactic
import Derived.BigQuiet
import Derived.BigRegion
import Derived.Deep.LoopGhost
import Derived.Laws.BitsAllLaws
import Derived.Below
import Derived.Carry
import Derived.Deep.DeepCutAuto
import Derived.Deep.DeepMust
import Derived.Deep.DeepFit
import Derived.OwnWalk
import Derived.Laws.Rows
import Derived.Laws.CopyOwn
/- Small lemmas that the walks of this seat share: worlds, arrays, bits of numbers, what a walk is told of a slice that came in. Lemmas alone; nothing here is a statement of the seat. -/
namespace Go.Proofs.Ytipfoclmdbbjiaa
open Go.RowKit Go.ChangeShapes Go.WideShapes Go.ChangeAt

set_option maxRecDepth 100000 in
theorem hide {p : Prop} (h : p) : Hid p := h
set_option maxRecDepth 100000 in
theorem below_drewN {B : Nat} {a w : World} (h : Below B a w) (n : Nat) : Below B a (w.drewN n) := ⟨h.os, h.tape, h.output, h.size, h.block⟩
set_option maxRecDepth 100000 in
theorem sc_drewN (w : World) (c : Array Value) (T : TypeId) (n off : Nat) (v : Value) :
    ((w.alloc (.cells c T)).drewN n).setCell ⟨w.heap.size, off, none⟩ v = (w.alloc (.cells (c.setIfInBounds off v) T)).drewN n := by
  have h := World.setCell_alloc_new (w := w) c T off v
  have h2 : ((w.alloc (.cells c T)).drewN n).setCell ⟨w.heap.size, off, none⟩ v = ((w.alloc (.cells c T)).setCell ⟨w.heap.size, off, none⟩ v).drewN n := rfl
  rw [h2, h]
set_option maxRecDepth 100000 in
theorem arr_at (c : Array Value) (i n : Nat) (hs : c.size = n) (h : i < n) : ∃ v, c[i]? = some v :=
  ⟨_, Array.getElem?_eq_getElem (by rw [hs]; exact h)⟩
set_option maxRecDepth 100000 in
theorem ofInt_i64 (a : Nat) (ha : a < 9223372036854775808) : (BitVec.ofInt 64 (a : Int)).toNat = a := by
  rw [BitVec.ofInt_natCast, BitVec.toNat_ofNat]; exact Nat.mod_eq_of_lt (by omega)
set_option maxRecDepth 100000 in
theorem i64_xor_nat (a b : Nat) (ha : a < 9223372036854775808) (hb : b < 9223372036854775808) : bits .xor .i64 (a : Int) (b : Int) = ((a ^^^ b : Nat) : Int) := by
  have hx : a ^^^ b < 2 ^ 63 := Nat.xor_lt_two_pow (by omega) (by omega)
  show IntKind.i64.wrap ((BitVec.ofInt 64 (a : Int) ^^^ BitVec.ofInt 64 (b : Int)).toNat : Int) = _
  rw [BitVec.toNat_xor, ofInt_i64 a ha, ofInt_i64 b hb, IntKind.wrap_i64]
  omega
set_option maxRecDepth 100000 in
theorem cast_pow (x k : Nat) : (x : Int) / 2 ^ k = ((x / 2 ^ k : Nat) : Int) := by simp
set_option maxRecDepth 100000 in
theorem tmod2 (x : Nat) : ((x : Int).tmod 2 == 1) = decide (x % 2 = 1) := by
  rw [Int.tmod_eq_emod_of_nonneg (by omega)]
  rw [Bool.eq_iff_iff]
  simp
  omega
set_option maxRecDepth 100000 in
theorem u8_nat {a : Int} (h : (Lit.int .u8 a).wf = true) : ∃ n : Nat, a = n ∧ n < 256 := by
  have hx : 0 ≤ a ∧ a ≤ 255 := by simpa [Lit.wf, IntKind.min, IntKind.max, IntKind.signed, IntKind.bits] using h
  exact ⟨a.toNat, by omega, by omega⟩
set_option maxRecDepth 100000 in
theorem i64_bd {a : Int} (h : (Lit.int .i64 a).wf = true) : -9223372036854775808 ≤ a ∧ a ≤ 9223372036854775807 := by
  simpa [Lit.wf, IntKind.min, IntKind.max, IntKind.signed, IntKind.bits] using h
set_option maxRecDepth 100000 in
theorem u32_nat {a : Int} (h : (Lit.int .u32 a).wf = true) : ∃ n : Nat, a = n ∧ n < 4294967296 := by
  have hx : 0 ≤ a ∧ a ≤ 4294967295 := by simpa [Lit.wf, IntKind.min, IntKind.max, IntKind.signed, IntKind.bits] using h
  exact ⟨a.toNat, by omega, by omega⟩
set_option maxRecDepth 100000 in
theorem u64_nat {a : Int} (h : (Lit.int .u64 a).wf = true) : ∃ n : Nat, a = n ∧ n < 18446744073709551616 := by
  have hx : 0 ≤ a ∧ a ≤ 18446744073709551615 := by simpa [Lit.wf, IntKind.min, IntKind.max, IntKind.signed, IntKind.bits] using h
  exact ⟨a.toNat, by omega, by omega⟩
set_option maxRecDepth 100000 in
theorem ret_int {k : IntKind} {a b : Int} (h : a = b) : Ending.returned (.int k a) = .returned (.int k b) := by rw [h]
set_option maxRecDepth 100000 in
theorem ret_bool {a b : Bool} (h : a = b) : Ending.returned (.bool a) = .returned (.bool b) := by rw [h]

/-- What a walk is told of a slice of integers that came in: it is nil; or it leads to a row of 'cap' cells, the numbers 'zs' (the first 'len' are its elements, the rest its spare room), each fitting its kind. -/
def IsRow (k : IntKind) (w : World) (a : Option Addr) (len cap : Nat) (zs : List Int) : Prop :=
  (a = none ∧ len = 0 ∧ cap = 0 ∧ zs = []) ∨
  ∃ x, a = some x ∧ len ≤ cap ∧ cap ≤ maxLen ∧ zs.length = cap ∧ (∀ i, i < zs.length → w.cell? (x.add i) = some (.int k (zs.getD i 0))) ∧ ∀ n ∈ zs, (Lit.int k n).wf = true

set_option maxRecDepth 100000 in
theorem cell_of_block {w : World} {b i : Nat} {c : Array Value} {T : TypeId} {fr : Nat × Nat} (h : w.heap[b]? = some (.cells c T fr)) : w.cell? ⟨b, i, none⟩ = c[i]? := by
  simp [World.cell?, h]
set_option maxRecDepth 100000 in
theorem cell_block_lt {w : World} {a : Addr} {v : Value} (h : w.cell? a = some v) : a.block < w.heap.size := by
  unfold World.cell? at h
  split at h
  · rename_i heq
    exact (Array.getElem?_eq_some_iff.1 heq).1
  · cases h

/-- A slice of numbers of kind k reads as the list l: each element's cell holds its number. (Nil where l is empty, or not.) -/
def SlN (k : IntKind) (w : World) (s : Option Addr) (l : List Nat) : Prop := ∀ i x, l[i]? = some x → ∃ b off, s = some ⟨b, off, none⟩ ∧ w.cell? ⟨b, off + i, none⟩ = some (.int k (x : Nat))
set_option maxRecDepth 100000 in
theorem SlN.drewN {k : IntKind} {w : World} {s : Option Addr} {l : List Nat} (h : SlN k w s l) (n : Nat) : SlN k (w.drewN n) s l := h
set_option maxRecDepth 100000 in
theorem SlN.alloc {k : IntKind} {w : World} {s : Option Addr} {l : List Nat} (h : SlN k w s l) (o : Obj) : SlN k (w.alloc o) s l := by
  intro i x hx
  obtain ⟨b, off, hs, hc⟩ := h i x hx
  exact ⟨b, off, hs, (World.cell?_of_block (w := w) (Below.heap_alloc w o b (cell_block_lt hc))).trans hc⟩
set_option maxRecDepth 100000 in
theorem SlN.below {k : IntKind} {w w' : World} {s : Option Addr} {l : List Nat} (h : SlN k w s l) (hb : Below w.heap.size w w') : SlN k w' s l := by
  intro i x hx
  obtain ⟨b, off, hs, hc⟩ := h i x hx
  exact ⟨b, off, hs, by rw [hb.cell (p := ⟨b, off + i, none⟩) (cell_block_lt hc)]; exact hc⟩
set_option maxRecDepth 100000 in
/-- A block of numbers, known whole, reads as its numbers. -/
theorem SlN.lit (k : IntKind) {w : World} {b : Nat} (l : List Nat) {T : TypeId} {c : Array Value} {fr : Nat × Nat} (h : w.heap[b]? = some (.cells c T fr)) (hc : c.toList = l.map fun x => .int k (x : Nat)) : SlN k w (some ⟨b, 0, none⟩) l := by
  intro i x hx
  refine ⟨_, _, rfl, ?_⟩
  rw [cell_of_block h, ← Array.getElem?_toList, hc, Nat.zero_add]
  simp [hx]
set_option maxRecDepth 100000 in
/-- The block that was made last. -/
theorem last_block (w : World) (o : Obj) (n b : Nat) (hb : b = w.heap.size) : ((w.alloc o).drewN n).heap[b]? = some o := by
  show (w.heap.push _)[b]? = _
  rw [hb]; simp
set_option maxRecDepth 100000 in
theorem last_block0 (w : World) (o : Obj) (b : Nat) (hb : b = w.heap.size) : (w.alloc o).heap[b]? = some o := by
  show (w.heap.push _)[b]? = _
  rw [hb]; simp
set_option maxRecDepth 100000 in
/-- An argument that is a slice of integers, opened. -/
theorem isRow_open {H : Type} {enc : TypeId × Value → H} {P : Program} {W : World} {t e : TypeId} {k : IntKind} {a : Option Addr} {len cap : Nat} {d : DataW H} {p : List MemPlace}
    (ht : P.underlying t = some (.slice e)) (he : P.underlying e = some (.int k)) (hc : P.cellsOf e = 1)
    (h : DataW.Trod enc P W 0 (fun _ => true) true t (.slice a len cap) d p) : ∃ zs, IsRow k W a len cap zs := by
  obtain ⟨fuel, hf⟩ := h
  rcases open_ints ht he hc hf with ⟨hcs, _⟩ | ⟨x, l, c, zs, hcs, _, hl, hm, hz, _, hcell, hwz⟩
  · simp [Value.cells] at hcs
    obtain ⟨rfl, rfl, rfl⟩ := hcs
    exact ⟨[], .inl ⟨rfl, rfl, rfl, rfl⟩⟩
  · simp [Value.cells] at hcs
    obtain ⟨rfl, rfl, rfl⟩ := hcs
    refine ⟨zs, .inr ⟨x, rfl, hl, hm, by simpa using hz, hcell, hwz⟩⟩
set_option maxRecDepth 100000 in
theorem add_none (b off i : Nat) : (⟨b, off, none⟩ : Addr).add i = ⟨b, off + i, none⟩ := by unfold Addr.add; split <;> simp_all
set_option maxRecDepth 100000 in
theorem row_addr {k : IntKind} {w : World} {x : Addr} {zs : List Int} (hcell : ∀ i, i < zs.length → w.cell? (x.add i) = some (.int k (zs.getD i 0))) {i : Nat} (hi : i < zs.length) :
    ∃ b off, x = ⟨b, off, none⟩ := by
  have h0 := hcell 0 (by omega)
  obtain ⟨b, off, spot⟩ := x
  have hspot : spot = none := by simpa [Addr.add] using World.cell?_spot h0
  subst hspot
  exact ⟨b, off, rfl⟩
set_option maxRecDepth 100000 in
/-- As a list of natural numbers: for the kinds without a sign. -/
theorem isRow_nat {k : IntKind} {w : World} {a : Option Addr} {len cap : Nat} {zs : List Int} (h : IsRow k w a len cap zs) (B : Nat) (hk : ∀ n : Int, (Lit.int k n).wf = true → 0 ≤ n ∧ n < B) :
    ∃ l : List Nat, l.length = len ∧ len ≤ cap ∧ cap ≤ maxLen ∧ (∀ x ∈ l, x < B) ∧ SlN k w a l := by
  rcases h with ⟨rfl, rfl, rfl, rfl⟩ | ⟨x, rfl, hl, hm, hz, hcell, hwz⟩
  · exact ⟨[], rfl, Nat.le_refl _, by unfold maxLen; omega, by simp, fun i x hx => by simp at hx⟩
  · refine ⟨(zs.take len).map Int.toNat, by simp; omega, hl, hm, ?_, ?_⟩
    · intro y hy
      obtain ⟨n, hn, rfl⟩ := List.mem_map.1 hy
      have := hk n (hwz n (List.mem_of_mem_take hn))
      omega
    · intro i y hy
      rw [List.getElem?_map] at hy
      rcases hq : (zs.take len)[i]? with _ | n
      · rw [hq] at hy; cases hy
      · rw [hq] at hy
        simp only [Option.map_some, Option.some.injEq] at hy
        have hi : i < (zs.take len).length := (List.getElem?_eq_some_iff.1 hq).1
        have hzi : zs[i]? = some n := by
          rw [List.getElem?_take] at hq
          split at hq
          · exact hq
          · cases hq
        have hn := hk n (hwz n (List.mem_of_getElem? hzi))
        have hc := hcell i (by simp at hi; omega)
        rw [List.getD_eq_getElem?_getD, hzi] at hc
        obtain ⟨b, off, rfl⟩ := row_addr hcell (i := i) (by simp at hi; omega)
        refine ⟨b, off, rfl, ?_⟩
        have e : (y : Int) = n := by omega
        rw [e, ← add_none]
        simpa using hc
set_option maxRecDepth 100000 in
theorem isRow_none {k : IntKind} {w : World} {len cap : Nat} {zs : List Int} (h : IsRow k w none len cap zs) : len = 0 ∧ cap = 0 := by
  rcases h with ⟨_, h1, h2, _⟩ | ⟨x, hx, _⟩
  · exact ⟨h1, h2⟩
  · cases hx
set_option maxRecDepth 100000 in
theorem SlN.block_lt {k : IntKind} {w : World} {s : Option Addr} {l : List Nat} (h : SlN k w s l) (hl : l ≠ []) : ∃ b off, s = some ⟨b, off, none⟩ ∧ b < w.heap.size := by
  cases l with
  | nil => exact absurd rfl hl
  | cons x r =>
    obtain ⟨b, off, hs, hc⟩ := h 0 x rfl
    exact ⟨b, off, hs, cell_block_lt hc⟩
/-- As a list of integers. -/
def SlZ (k : IntKind) (w : World) (s : Option Addr) (l : List Int) : Prop := ∀ i x, l[i]? = some x → ∃ b off, s = some ⟨b, off, none⟩ ∧ w.cell? ⟨b, off + i, none⟩ = some (.int k x)
set_option maxRecDepth 100000 in
theorem SlZ.drewN {k : IntKind} {w : World} {s : Option Addr} {l : List Int} (h : SlZ k w s l) (n : Nat) : SlZ k (w.drewN n) s l := h
set_option maxRecDepth 100000 in
theorem SlZ.below {k : IntKind} {w w' : World} {s : Option Addr} {l : List Int} (h : SlZ k w s l) (hb : Below w.heap.size w w') : SlZ k w' s l := by
  intro i x hx
  obtain ⟨b, off, hs, hc⟩ := h i x hx
  exact ⟨b, off, hs, by rw [hb.cell (p := ⟨b, off + i, none⟩) (cell_block_lt hc)]; exact hc⟩
set_option maxRecDepth 100000 in
theorem isRow_int {k : IntKind} {w : World} {a : Option Addr} {len cap : Nat} {zs : List Int} (h : IsRow k w a len cap zs) :
    ∃ l : List Int, l.length = len ∧ len ≤ cap ∧ cap ≤ maxLen ∧ (∀ x ∈ l, (Lit.int k x).wf = true) ∧ SlZ k w a l := by
  rcases h with ⟨rfl, rfl, rfl, rfl⟩ | ⟨x, rfl, hl, hm, hz, hcell, hwz⟩
  · exact ⟨[], rfl, Nat.le_refl _, by unfold maxLen; omega, by simp, fun i x hx => by simp at hx⟩
  · refine ⟨zs.take len, by simp; omega, hl, hm, fun y hy => hwz y (List.mem_of_mem_take hy), ?_⟩
    intro i y hy
    have hi : i < (zs.take len).length := (List.getElem?_eq_some_iff.1 hy).1
    have hzi : zs[i]? = some y := by
      rw [List.getElem?_take] at hy
      split at hy
      · exact hy
      · cases hy
    have hc := hcell i (by simp at hi; omega)
    rw [List.getD_eq_getElem?_getD, hzi] at hc
    obtain ⟨b, off, rfl⟩ := row_addr hcell (i := i) (by simp at hi; omega)
    exact ⟨b, off, rfl, by rw [← add_none]; simpa using hc⟩
set_option maxRecDepth 100000 in
theorem u8_bd (n : Int) (h : (Lit.int .u8 n).wf = true) : 0 ≤ n ∧ n < (256 : Nat) := by
  obtain ⟨m, rfl, hm⟩ := u8_nat h; omega
set_option maxRecDepth 100000 in
theorem u32_bd (n : Int) (h : (Lit.int .u32 n).wf = true) : 0 ≤ n ∧ n < (4294967296 : Nat) := by
  obtain ⟨m, rfl, hm⟩ := u32_nat h; omega

/-! ### facts on a block in a world that turns; what but one block, and what is new, has stayed -/
set_option maxRecDepth 100000 in
theorem blk_alloc {w : World} {b : Nat} {o : Obj} (h : w.heap[b]? = some o) (o' : Obj) : (w.alloc o').heap[b]? = some o :=
  (Below.heap_alloc w o' b (Array.getElem?_eq_some_iff.1 h).1).trans h
set_option maxRecDepth 100000 in
theorem blk_drewN {w : World} {b : Nat} {o : Obj} (h : w.heap[b]? = some o) (n : Nat) : (w.drewN n).heap[b]? = some o := h
set_option maxRecDepth 100000 in
theorem blk_drew {w : World} {b : Nat} {o : Obj} (h : w.heap[b]? = some o) : w.drew.heap[b]? = some o := h
set_option maxRecDepth 100000 in
theorem blk_set {w : World} {b : Nat} {c : Array Value} {T : TypeId} (h : w.heap[b]? = some (.cells c T (0, 0))) (off : Nat) (v : Value) : (w.setCell ⟨b, off, none⟩ v).heap[b]? = some (.cells (c.setIfInBounds off v) T (0, 0)) :=
  heap_setCell_same w b off c T v h
set_option maxRecDepth 100000 in
theorem blk_set_other {w : World} {b b' : Nat} {o : Obj} (h : w.heap[b]? = some o) (hne : b ≠ b') (off : Nat) (v : Value) : (w.setCell ⟨b', off, none⟩ v).heap[b]? = some o :=
  (heap_setCell_other w ⟨b', off, none⟩ b v hne).trans h
set_option maxRecDepth 100000 in
theorem frozen_blk {w : World} {b off : Nat} {c : Array Value} {T : TypeId} (h : w.heap[b]? = some (.cells c T (0, 0))) : w.frozen? ⟨b, off, none⟩ = false := frozen_of_row w b off c T h
set_option maxRecDepth 100000 in
theorem only_refl (w : World) (row : Option Nat) : w.grownBy w row := ⟨rfl, rfl, rfl, Nat.le_refl _, fun _ _ _ => rfl⟩
set_option maxRecDepth 100000 in
theorem only_drewN {a w : World} {row : Option Nat} (h : a.grownBy w row) (n : Nat) : a.grownBy (w.drewN n) row := ⟨h.os, h.tape, h.output, h.size, h.block⟩
set_option maxRecDepth 100000 in
theorem only_drew {a w : World} {row : Option Nat} (h : a.grownBy w row) : a.grownBy w.drew row := ⟨h.os, h.tape, h.output, h.size, h.block⟩
set_option maxRecDepth 100000 in
theorem only_alloc {a w : World} {row : Option Nat} (h : a.grownBy w row) (o : Obj) : a.grownBy (w.alloc o) row :=
  ⟨h.os, h.tape, h.output, Nat.le_trans h.size (by simp), fun i hi hne => (Below.heap_alloc w o i (Nat.lt_of_lt_of_le hi h.size)).trans (h.block i hi hne)⟩
set_option maxRecDepth 100000 in
theorem only_setCell {a w : World} {g : Nat} (h : a.grownBy w (some g)) {p : Addr} (hp : p.block = g ∨ a.heap.size ≤ p.block) (u : Value) : a.grownBy (w.setCell p u) (some g) :=
  ⟨h.os, h.tape, h.output, by simpa [World.setCell] using h.size, fun i hi hne => (Below.heap_setCell w p u i (by
    rintro rfl
    rcases hp with hp | hp
    · exact hne (by rw [hp])
    · omega)).trans (h.block i hi hne)⟩
set_option maxRecDepth 100000 in
theorem only_set {a w : World} {g : Nat} (h : a.grownBy w (some g)) (off : Nat) (u : Value) : a.grownBy (w.setCell ⟨g, off, none⟩ u) (some g) := only_setCell h (.inl rfl) u
set_option maxRecDepth 100000 in
theorem only_of_below {a w : World} (h : Below a.heap.size a w) (row : Option Nat) : a.grownBy w row := ⟨h.os, h.tape, h.output, h.size, fun i hi _ => h.block i hi⟩
set_option maxRecDepth 100000 in
theorem only_trans {a b c : World} {row : Option Nat} (h : a.grownBy b row) (k : b.grownBy c row) : a.grownBy c row :=
  ⟨k.os.trans h.os, k.tape.trans h.tape, k.output.trans h.output, Nat.le_trans h.size k.size, fun i hi hne => (k.block i (Nat.lt_of_lt_of_le hi h.size) hne).trans (h.block i hi hne)⟩
set_option maxRecDepth 100000 in
theorem only_setRow {a w : World} {g : Nat} (h : a.grownBy w (some g)) {b : Nat} (hp : b = g ∨ a.heap.size ≤ b) (cs : Array Value) : a.grownBy (w.setRow b cs) (some g) :=
  ⟨h.os, h.tape, h.output, by simpa using h.size, fun i hi hne => (setRow_other w b i cs (by
    rintro rfl
    rcases hp with hp | hp
    · exact hne (by rw [hp])
    · omega)).trans (h.block i hi hne)⟩
set_option maxRecDepth 100000 in
/-- The one row that may have been written is a new one: below it nothing has turned. -/
theorem below_of_only {B : Nat} {a w w' : World} {g : Nat} (h : Below B a w) (k : w.grownBy w' (some g)) (hB : B ≤ w.heap.size) (hg : B ≤ g) : Below B a w' :=
  h.grown k hB (fun i e => by injection e with e; omega)

set_option maxRecDepth 100000 in
theorem quiet_left {P : Program} {f : FuncId} {args : Array Value} {w : World} {n : Nat} {v : Value}
    (h : Calls P f args (w.drewN n) fun e w' => e = .returned v ∧ w.drewN n = w') : Calls P f args (w.drewN n) fun e w'' => e = .returned v ∧ ∃ m, w'' = w.drewN m :=
  h.mono fun _ _ ⟨he, hm⟩ => ⟨he, n, hm.symm⟩
/-! ### results of which the first lies in memory -/
section
variable {P : Program}
set_option maxRecDepth 100000 in
theorem results_row_tmp {fn : Func} {p u : Tmp} {ty : TypeId} (h : fn.results = #[.cell p ty, .tmp u]) (tmps : Array Value) (w : World) (g : Nat) (t : TypeId) (cs : Array Value) (fr : Nat × Nat) (d : TypeDesc) (x : Value)
    (hp : tmps.getD p undef = .pointer (some ⟨g, 0, none⟩)) (hx : tmps.getD u undef = x) (hg : w.heap[g]? = some (.cells cs t fr))
    (hu : P.underlying ty = some d) (hd : (match d with | .struct _ | .array _ _ => true | _ => false) = true) (hi : (P.info? ty).map (·.size) = some cs.size) :
    (results fn tmps).run P w = .ok (.tuple #[.agg cs, x]) w := by
  have hp' : tmps[p]?.getD undef = .pointer (some ⟨g, 0, none⟩) := by simpa using hp
  have hx' : tmps[u]?.getD undef = x := by simpa using hx
  simp [results, h, hp', hx', asAddr, Sem.run_bind, run_loadVar_row w g t ty cs fr d hg hu hd hi]
set_option maxRecDepth 100000 in
theorem results_row_tmp2 {fn : Func} {p u v : Tmp} {ty : TypeId} (h : fn.results = #[.cell p ty, .tmp u, .tmp v]) (tmps : Array Value) (w : World) (g : Nat) (t : TypeId) (cs : Array Value) (fr : Nat × Nat) (d : TypeDesc) (x y : Value)
    (hp : tmps.getD p undef = .pointer (some ⟨g, 0, none⟩)) (hx : tmps.getD u undef = x) (hy : tmps.getD v undef = y) (hg : w.heap[g]? = some (.cells cs t fr))
    (hu : P.underlying ty = some d) (hd : (match d with | .struct _ | .array _ _ => true | _ => false) = true) (hi : (P.info? ty).map (·.size) = some cs.size) :
    (results fn tmps).run P w = .ok (.tuple #[.agg cs, x, y]) w := by
  have hp' : tmps[p]?.getD undef = .pointer (some ⟨g, 0, none⟩) := by simpa using hp
  have hx' : tmps[u]?.getD undef = x := by simpa using hx
  have hy' : tmps[v]?.getD undef = y := by simpa using hy
  simp [results, h, hp', hx', hy', asAddr, Sem.run_bind, run_loadVar_row w g t ty cs fr d hg hu hd hi]
end
end Go.Proofs.Ytipfoclmdbbjiaa

/- The field of 256 elements in plain numbers: powers of x, logarithms, the product bit by bit; that the two products are one; the field's laws. No program is in sight. -/
namespace Go.Proofs.Ytipfoclmdbbjiaa

/-- one more power of x -/
def gstep (w : Nat) : Nat := if 2 * w > 255 then (2 * w) ^^^ 285 else 2 * w
def gexp : Nat → Nat
  | 0 => 1
  | k + 1 => gstep (gexp k)

set_option maxRecDepth 100000 in
theorem gstep_lt (w : Nat) (h : w < 256) : gstep w < 256 := by
  revert w; decide +kernel
set_option maxRecDepth 100000 in
theorem gexp_lt (k : Nat) : gexp k < 256 := by
  induction k with
  | zero => decide
  | succ k ih => exact gstep_lt _ ih

/-! ### linear functions of bits -/
set_option maxRecDepth 100000 in
theorem xor4 (a b c d : Nat) : (a ^^^ b) ^^^ (c ^^^ d) = (a ^^^ c) ^^^ (b ^^^ d) := by
  rw [Nat.xor_assoc, ← Nat.xor_assoc b, Nat.xor_comm b c, Nat.xor_assoc, Nat.xor_assoc]

set_option maxRecDepth 100000 in
theorem odd_xor (x y i : Nat) : ((x ^^^ y) >>> i) % 2 = ((x >>> i) % 2 + (y >>> i) % 2) % 2 := by
  have h : ∀ z : Nat, (z >>> i) % 2 = (z.testBit i).toNat := by
    intro z
    rw [Nat.testBit, Nat.and_comm, Nat.and_one_is_mod]
    rcases Nat.mod_two_eq_zero_or_one (z >>> i) with h | h <;> simp [h]
  rw [h, h, h, Nat.testBit_xor]
  cases x.testBit i <;> cases y.testBit i <;> rfl

def mulA (a b : Nat) : Nat → Nat
  | 0 => 0
  | i + 1 => if (b >>> i) % 2 = 1 then mulA a b i ^^^ (a <<< i) else mulA a b i
def redB (n : Nat) : Nat → Nat
  | 0 => n
  | j + 1 => if (redB n j >>> (14 - j)) % 2 = 1 then redB n j ^^^ (285 <<< (6 - j)) else redB n j
/-- the document's product -/
def rmul (a b : Nat) : Nat := redB (mulA a b 8) 7 % 256

set_option maxRecDepth 100000 in
theorem mulA_xor_right (a b c i : Nat) : mulA a (b ^^^ c) i = mulA a b i ^^^ mulA a c i := by
  induction i with
  | zero => simp [mulA]
  | succ i ih =>
    simp only [mulA, ih, odd_xor]
    rcases Nat.mod_two_eq_zero_or_one (b >>> i) with h | h <;> rcases Nat.mod_two_eq_zero_or_one (c >>> i) with k | k
    · simp [h, k]
    · simp [h, k, Nat.xor_assoc]
    · simp [h, k]; rw [Nat.xor_assoc, Nat.xor_assoc, Nat.xor_comm (mulA a c i)]
    · simp [h, k]; rw [xor4, Nat.xor_self, Nat.xor_zero]
set_option maxRecDepth 100000 in
theorem mulA_xor_left (a b c i : Nat) : mulA (a ^^^ b) c i = mulA a c i ^^^ mulA b c i := by
  induction i with
  | zero => simp [mulA]
  | succ i ih =>
    simp only [mulA, ih]
    rcases Nat.mod_two_eq_zero_or_one (c >>> i) with h | h
    · simp [h]
    · simp only [h, if_true]
      rw [Nat.shiftLeft_xor_distrib, xor4]
set_option maxRecDepth 100000 in
theorem redB_xor (x y j : Nat) : redB (x ^^^ y) j = redB x j ^^^ redB y j := by
  induction j with
  | zero => rfl
  | succ j ih =>
    simp only [redB, ih, odd_xor]
    rcases Nat.mod_two_eq_zero_or_one (redB x j >>> (14 - j)) with h | h <;> rcases Nat.mod_two_eq_zero_or_one (redB y j >>> (14 - j)) with k | k
    · simp [h, k]
    · simp [h, k, Nat.xor_assoc]
    · simp [h, k]; rw [Nat.xor_assoc, Nat.xor_assoc, Nat.xor_comm (redB y j)]
    · simp [h, k]; rw [xor4, Nat.xor_self, Nat.xor_zero]
set_option maxRecDepth 100000 in
theorem rmul_xor_right (a b c : Nat) : rmul a (b ^^^ c) = rmul a b ^^^ rmul a c := by
  unfold rmul
  rw [mulA_xor_right, redB_xor]
  exact Nat.xor_mod_two_pow (n := 8)
set_option maxRecDepth 100000 in
theorem rmul_xor_left (a b c : Nat) : rmul (a ^^^ b) c = rmul a c ^^^ rmul b c := by
  unfold rmul
  rw [mulA_xor_left, redB_xor]
  exact Nat.xor_mod_two_pow (n := 8)
set_option maxRecDepth 100000 in
theorem rmul_lt (a b : Nat) : rmul a b < 256 := Nat.mod_lt _ (by decide)

set_option maxRecDepth 100000 in
/-- Two functions that turn sums into sums and agree at 1, 2, 4, .., 128 agree below 256. -/
theorem lin_ext (f g : Nat → Nat) (hf : ∀ x y, x < 256 → y < 256 → f (x ^^^ y) = f x ^^^ f y) (hg : ∀ x y, x < 256 → y < 256 → g (x ^^^ y) = g x ^^^ g y)
    (h : ∀ i, i < 8 → f (2 ^ i) = g (2 ^ i)) : ∀ n x, n ≤ 8 → x < 2 ^ n → f x = g x := by
  have f0 : f 0 = 0 := by have := hf 0 0 (by decide) (by decide); simpa using this
  have g0 : g 0 = 0 := by have := hg 0 0 (by decide) (by decide); simpa using this
  intro n
  induction n with
  | zero => intro x _ hx; obtain rfl : x = 0 := by simpa using hx
            rw [f0, g0]
  | succ n ih =>
    intro x hn hx
    by_cases hlt : x < 2 ^ n
    · exact ih x (by omega) hlt
    · have hp : 2 ^ (n + 1) = 2 * 2 ^ n := by rw [Nat.pow_succ, Nat.mul_comm]
      have h256 : 2 ^ (n + 1) ≤ 2 ^ 8 := Nat.pow_le_pow_right (by decide) (by omega)
      have h256' : (2 : Nat) ^ 8 = 256 := rfl
      obtain ⟨y, rfl⟩ : ∃ y, x = 2 ^ n + y := ⟨x - 2 ^ n, by omega⟩
      have hy : y < 2 ^ n := by omega
      have hsum : 2 ^ n + y = 2 ^ n ^^^ y := by
        have h1 := Nat.two_pow_add_eq_or_of_lt hy 1
        simp only [Nat.mul_one] at h1
        rw [h1]
        apply Nat.eq_of_testBit_eq
        intro j
        rw [Nat.testBit_or, Nat.testBit_xor, Nat.testBit_two_pow]
        by_cases e : n = j
        · subst e; rw [Nat.testBit_lt_two_pow hy]; simp
        · simp [e]
      rw [hsum, hf _ _ (by omega) (by omega), hg _ _ (by omega) (by omega), h n (by omega), ih y (by omega) hy]

set_option maxRecDepth 100000 in
theorem gstep_lin (x y : Nat) (hx : x < 256) (hy : y < 256) : gstep (x ^^^ y) = gstep x ^^^ gstep y := by
  have key : ∀ w, w < 256 → gstep w = (2 * w) ^^^ (if (w >>> 7) % 2 = 1 then 285 else 0) := by decide +kernel
  have hxy : x ^^^ y < 256 := Nat.xor_lt_two_pow (n := 8) hx hy
  rw [key _ hx, key _ hy, key _ hxy, odd_xor]
  have hd : 2 * (x ^^^ y) = (2 * x) ^^^ (2 * y) := by
    have := Nat.shiftLeft_xor_distrib (a := x) (b := y) (i := 1)
    simpa [Nat.shiftLeft_eq, Nat.mul_comm] using this
  rw [hd, xor4]
  congr 1
  rcases Nat.mod_two_eq_zero_or_one (x >>> 7) with h | h <;> rcases Nat.mod_two_eq_zero_or_one (y >>> 7) with k | k <;> simp [h, k]

set_option maxRecDepth 100000 in
theorem rmul_gstep (a b : Nat) (ha : a < 256) (hb : b < 256) : rmul a (gstep b) = gstep (rmul a b) := by
  have key : ∀ i, i < 8 → ∀ j, j < 8 → rmul (2 ^ j) (gstep (2 ^ i)) = gstep (rmul (2 ^ j) (2 ^ i)) := by decide +kernel
  refine lin_ext (fun b => rmul a (gstep b)) (fun b => gstep (rmul a b)) ?_ ?_ ?_ 8 b (by decide) hb
  · intro x y hx hy; simp only [gstep_lin x y hx hy, rmul_xor_right]
  · intro x y hx hy; simp only [rmul_xor_right]; exact gstep_lin _ _ (rmul_lt _ _) (rmul_lt _ _)
  · intro i hi
    refine lin_ext (fun a => rmul a (gstep (2 ^ i))) (fun a => gstep (rmul a (2 ^ i))) ?_ ?_ ?_ 8 a (by decide) ha
    · intro x y hx hy; simp only [rmul_xor_left]
    · intro x y hx hy; simp only [rmul_xor_left]; exact gstep_lin _ _ (rmul_lt _ _) (rmul_lt _ _)
    · intro j hj; exact key i hi j hj
set_option maxRecDepth 100000 in
theorem rmul_one (a : Nat) (ha : a < 256) : rmul a 1 = a := by
  revert a; decide +kernel
set_option maxRecDepth 100000 in
theorem rmul_gexp (j k : Nat) : rmul (gexp j) (gexp k) = gexp (j + k) := by
  induction k with
  | zero => exact rmul_one _ (gexp_lt j)
  | succ k ih =>
    show rmul (gexp j) (gstep (gexp k)) = gstep (gexp (j + k))
    rw [rmul_gstep _ _ (gexp_lt j) (gexp_lt k), ih]
set_option maxRecDepth 100000 in
theorem rmul_zero_left (b : Nat) : rmul 0 b = 0 := by
  have := rmul_xor_left 0 0 b
  simpa using this
set_option maxRecDepth 100000 in
theorem rmul_zero_right (a : Nat) : rmul a 0 = 0 := by
  have := rmul_xor_right a 0 0
  simpa using this

/-! ### the logarithm -/
def expList : Nat → Nat → List Nat
  | 0, _ => []
  | n + 1, w => w :: expList n (gstep w)
def expL : List Nat := expList 255 1
set_option maxRecDepth 100000 in
theorem expList_length (n w : Nat) : (expList n w).length = n := by
  induction n generalizing w with
  | zero => rfl
  | succ n ih => simp [expList, ih]
def gpow (k w : Nat) : Nat := Nat.rec w (fun _ x => gstep x) k
set_option maxRecDepth 100000 in
theorem gpow_step (k w : Nat) : gpow k (gstep w) = gstep (gpow k w) := by
  induction k with
  | zero => rfl
  | succ k ih => show gstep (gpow k (gstep w)) = _; rw [ih]; rfl
set_option maxRecDepth 100000 in
theorem gexp_gpow (k : Nat) : gexp k = gpow k 1 := by
  induction k with
  | zero => rfl
  | succ k ih => show gstep (gexp k) = gstep (gpow k 1); rw [ih]
set_option maxRecDepth 100000 in
theorem expList_get (n w k : Nat) (h : k < n) : (expList n w)[k]? = some (gpow k w) := by
  induction n generalizing w k with
  | zero => omega
  | succ n ih =>
    cases k with
    | zero => rfl
    | succ k =>
      show (expList n (gstep w))[k]? = _
      rw [ih _ _ (by omega), gpow_step]; rfl
set_option maxRecDepth 100000 in
theorem expL_get (k : Nat) (h : k < 255) : expL[k]? = some (gexp k) := by
  rw [gexp_gpow]; exact expList_get 255 1 k h
set_option maxRecDepth 100000 in
theorem expL_length : expL.length = 255 := expList_length _ _
set_option maxRecDepth 100000 in
theorem expL_nodup : expL.Nodup := by decide +kernel
set_option maxRecDepth 100000 in
theorem expL_all : ∀ a, a < 256 → a ≠ 0 → a ∈ expL := by
  have h : (List.range 256).all (fun a => a == 0 || expL.contains a) = true := by decide +kernel
  intro a ha h0
  have := List.all_eq_true.1 h a (by simpa using ha)
  simpa [h0] using this
def glog (a : Nat) : Nat := expL.idxOf a
set_option maxRecDepth 100000 in
theorem glog_lt (a : Nat) (ha : a < 256) (h0 : a ≠ 0) : glog a < 255 := by
  have := List.idxOf_lt_length_of_mem (expL_all a ha h0)
  rwa [expL_length] at this
set_option maxRecDepth 100000 in
theorem gexp_glog (a : Nat) (ha : a < 256) (h0 : a ≠ 0) : gexp (glog a) = a := by
  have hlt := List.idxOf_lt_length_of_mem (expL_all a ha h0)
  have h1 := expL_get (glog a) (glog_lt a ha h0)
  have h2 : expL[expL.idxOf a]? = some a := by
    rw [List.getElem?_eq_getElem hlt, List.getElem_idxOf hlt]
  have h3 : some (gexp (glog a)) = some a := h1.symm.trans h2
  simpa using h3
set_option maxRecDepth 100000 in
theorem gexp_inj (j k : Nat) (hj : j < 255) (hk : k < 255) (h : gexp j = gexp k) : j = k := by
  have h1 := expL_get j hj
  have h2 := expL_get k hk
  have hj' : j < expL.length := by rw [expL_length]; exact hj
  have hk' : k < expL.length := by rw [expL_length]; exact hk
  rw [List.getElem?_eq_getElem hj'] at h1
  rw [List.getElem?_eq_getElem hk'] at h2
  have : expL[j] = expL[k] := by
    simp only [Option.some.injEq] at h1 h2
    rw [h1, h2, h]
  exact (List.getElem_inj expL_nodup).1 this
set_option maxRecDepth 100000 in
theorem glog_gexp (k : Nat) (hk : k < 255) (h0 : gexp k ≠ 0) : glog (gexp k) = k :=
  gexp_inj _ _ (glog_lt _ (gexp_lt k) h0) hk (gexp_glog _ (gexp_lt k) h0)
set_option maxRecDepth 100000 in
theorem gexp_pos (k : Nat) : gexp k ≠ 0 := by
  have key : ∀ w, w < 256 → w ≠ 0 → gstep w ≠ 0 := by decide +kernel
  induction k with
  | zero => decide
  | succ k ih => exact key _ (gexp_lt k) ih
set_option maxRecDepth 100000 in
theorem gexp_255 : gexp 255 = 1 := by decide +kernel
set_option maxRecDepth 100000 in
theorem gexp_add255 (k : Nat) : gexp (k + 255) = gexp k := by
  induction k with
  | zero => exact gexp_255
  | succ k ih =>
    have : k + 1 + 255 = (k + 255) + 1 := by omega
    rw [this]
    show gstep (gexp (k + 255)) = gstep (gexp k)
    rw [ih]
set_option maxRecDepth 100000 in
theorem gexp_mod (k : Nat) : gexp (k % 255) = gexp k := by
  have : ∀ q r : Nat, gexp (r + 255 * q) = gexp r := by
    intro q
    induction q with
    | zero => intro r; rfl
    | succ q ih => intro r; rw [show r + 255 * (q + 1) = (r + 255 * q) + 255 by omega, gexp_add255, ih]
  conv => rhs; rw [← Nat.mod_add_div k 255]
  rw [this]

/-! ### the field's laws -/
set_option maxRecDepth 100000 in
theorem rmul_log (a b : Nat) (ha : a < 256) (hb : b < 256) (a0 : a ≠ 0) (b0 : b ≠ 0) : rmul a b = gexp (glog a + glog b) := by
  rw [← rmul_gexp, gexp_glog a ha a0, gexp_glog b hb b0]
set_option maxRecDepth 100000 in
theorem rmul_comm (a b : Nat) (ha : a < 256) (hb : b < 256) : rmul a b = rmul b a := by
  by_cases a0 : a = 0
  · rw [a0, rmul_zero_left, rmul_zero_right]
  · by_cases b0 : b = 0
    · rw [b0, rmul_zero_left, rmul_zero_right]
    · rw [rmul_log a b ha hb a0 b0, rmul_log b a hb ha b0 a0, Nat.add_comm]
set_option maxRecDepth 100000 in
theorem rmul_ne (a b : Nat) (ha : a < 256) (hb : b < 256) (a0 : a ≠ 0) (b0 : b ≠ 0) : rmul a b ≠ 0 := by
  rw [rmul_log a b ha hb a0 b0]; exact gexp_pos _
set_option maxRecDepth 100000 in
theorem glog_gexp_mod (k : Nat) : glog (gexp k) = k % 255 := by
  rw [← gexp_mod]; exact glog_gexp _ (Nat.mod_lt _ (by decide)) (gexp_pos _)
set_option maxRecDepth 100000 in
theorem rmul_assoc (a b c : Nat) (ha : a < 256) (hb : b < 256) (hc : c < 256) : rmul a (rmul b c) = rmul (rmul a b) c := by
  by_cases a0 : a = 0
  · rw [a0, rmul_zero_left, rmul_zero_left, rmul_zero_left]
  · by_cases b0 : b = 0
    · rw [b0, rmul_zero_left, rmul_zero_right, rmul_zero_left]
    · by_cases c0 : c = 0
      · rw [c0, rmul_zero_right, rmul_zero_right, rmul_zero_right]
      · rw [rmul_log b c hb hc b0 c0, rmul_log a b ha hb a0 b0]
        rw [rmul_log a _ ha (gexp_lt _) a0 (gexp_pos _), rmul_log _ c (gexp_lt _) hc (gexp_pos _) c0]
        rw [glog_gexp_mod, glog_gexp_mod]
        rw [← gexp_mod (glog a + _), ← gexp_mod (_ + glog c)]
        congr 1; omega
set_option maxRecDepth 100000 in
theorem rmul_inv (a : Nat) (ha : a < 256) (a0 : a ≠ 0) : rmul a (gexp (255 - glog a)) = 1 := by
  have h := glog_lt a ha a0
  rw [rmul_log a _ ha (gexp_lt _) a0 (gexp_pos _), glog_gexp_mod, ← gexp_mod]
  have : (glog a + (255 - glog a) % 255) % 255 = 0 := by omega
  rw [this]; rfl
set_option maxRecDepth 100000 in
theorem mulA_lt (a b k : Nat) (ha : a < 256) (hk : k ≤ 8) : mulA a b k < 65536 := by
  induction k with
  | zero => simp [mulA]
  | succ k ih =>
    have h1 := ih (by omega)
    have h2 : a <<< k < 65536 := by
      rw [Nat.shiftLeft_eq]
      have : 2 ^ k ≤ 2 ^ 7 := Nat.pow_le_pow_right (by decide) (by omega)
      calc a * 2 ^ k ≤ a * 2 ^ 7 := Nat.mul_le_mul_left _ this
        _ < 65536 := by omega
    simp only [mulA]
    split
    · exact Nat.xor_lt_two_pow (n := 16) h1 h2
    · exact h1
set_option maxRecDepth 100000 in
theorem redB_lt (n j : Nat) (hn : n < 65536) : redB n j < 65536 := by
  induction j with
  | zero => exact hn
  | succ j ih =>
    simp only [redB]
    split
    · refine Nat.xor_lt_two_pow (n := 16) ih ?_
      rw [Nat.shiftLeft_eq]
      have : 2 ^ (6 - j) ≤ 2 ^ 6 := Nat.pow_le_pow_right (by decide) (by omega)
      calc 285 * 2 ^ (6 - j) ≤ 285 * 2 ^ 6 := Nat.mul_le_mul_left _ this
        _ < 2 ^ 16 := by decide
    · exact ih
set_option maxRecDepth 100000 in
theorem mulA_yes (a b k : Nat) (h : (b / 2 ^ k) % 2 = 1) : mulA a b (k + 1) = mulA a b k ^^^ (a * 2 ^ k) := by
  simp only [mulA]; rw [Nat.shiftRight_eq_div_pow, if_pos h, Nat.shiftLeft_eq]
set_option maxRecDepth 100000 in
theorem mulA_no (a b k : Nat) (h : ¬ (b / 2 ^ k) % 2 = 1) : mulA a b (k + 1) = mulA a b k := by
  simp only [mulA]; rw [Nat.shiftRight_eq_div_pow, if_neg h]
set_option maxRecDepth 100000 in
theorem redB_yes (n j : Nat) (h : (redB n j / 2 ^ (14 - j)) % 2 = 1) : redB n (j + 1) = redB n j ^^^ (285 * 2 ^ (6 - j)) := by
  simp only [redB]; rw [Nat.shiftRight_eq_div_pow, if_pos h, Nat.shiftLeft_eq]
set_option maxRecDepth 100000 in
theorem redB_no (n j : Nat) (h : ¬ (redB n j / 2 ^ (14 - j)) % 2 = 1) : redB n (j + 1) = redB n j := by
  simp only [redB]; rw [Nat.shiftRight_eq_div_pow, if_neg h]
/-! ### the inverse and the power -/
def rinv (a : Nat) : Nat := if a = 0 then 0 else gexp (255 - glog a)
set_option maxRecDepth 100000 in
theorem rinv_lt (a : Nat) : rinv a < 256 := by
  unfold rinv
  split
  · decide
  · exact gexp_lt _
set_option maxRecDepth 100000 in
theorem rmul_rinv (a : Nat) (ha : a < 256) (a0 : a ≠ 0) : rmul a (rinv a) = 1 := by
  unfold rinv; rw [if_neg a0]; exact rmul_inv a ha a0
set_option maxRecDepth 100000 in
theorem rinv_uniq (a b : Nat) (ha : a < 256) (hb : b < 256) (h : rmul a b = 1) : b = rinv a := by
  have a0 : a ≠ 0 := by intro e; rw [e, rmul_zero_left] at h; cases h
  have e1 : rmul (rinv a) (rmul a b) = rinv a := by rw [h, rmul_one _ (rinv_lt a)]
  rw [rmul_assoc _ _ _ (rinv_lt a) ha hb, rmul_comm (rinv a) a (rinv_lt a) ha, rmul_rinv a ha a0, rmul_comm 1 b (by decide) hb, rmul_one b hb] at e1
  exact e1
def rpow (a : Nat) : Nat → Nat
  | 0 => 1
  | n + 1 => rmul (rpow a n) a
set_option maxRecDepth 100000 in
theorem rpow_lt (a n : Nat) : rpow a n < 256 := by
  cases n with
  | zero => exact (by decide : (1 : Nat) < 256)
  | succ n => exact rmul_lt _ _
set_option maxRecDepth 100000 in
theorem rpow_gexp (j n : Nat) : rpow (gexp j) n = gexp (j * n) := by
  induction n with
  | zero => rfl
  | succ n ih => simp only [rpow]; rw [ih, rmul_gexp, Nat.mul_succ]
set_option maxRecDepth 100000 in
theorem rpow_log (a n : Nat) (ha : a < 256) (a0 : a ≠ 0) : rpow a n = gexp (glog a * n) := by
  rw [← rpow_gexp, gexp_glog a ha a0]
set_option maxRecDepth 100000 in
theorem rinv_eq (a : Nat) (a0 : a ≠ 0) : rinv a = gexp (255 - glog a) := by unfold rinv; rw [if_neg a0]
set_option maxRecDepth 100000 in
theorem rpow_zero (a : Nat) : rpow a 0 = 1 := rfl
set_option maxRecDepth 100000 in
theorem rpow_succ (a n : Nat) : rpow a (n + 1) = rmul (rpow a n) a := rfl
/-- x to any whole power -/
def zexp (n : Int) : Nat := gexp (n % 255).toNat
set_option maxRecDepth 100000 in
theorem zexp_eq (n : Int) : zexp n = gexp (n % 255).toNat := rfl
set_option maxRecDepth 100000 in
theorem rmul_eq (a b : Nat) : rmul a b = redB (mulA a b 8) 7 % 256 := rfl
/-! ### sums of many -/
def xorl (l : List Nat) : Nat := l.foldl (· ^^^ ·) 0
set_option maxRecDepth 100000 in
theorem xorl_nil : xorl [] = 0 := rfl
set_option maxRecDepth 100000 in
theorem xorl_snoc (l : List Nat) (x : Nat) : xorl (l ++ [x]) = xorl l ^^^ x := by simp [xorl]
set_option maxRecDepth 100000 in
theorem xorl_take (l : List Nat) (k x : Nat) (h : l[k]? = some x) : xorl (l.take (k + 1)) = xorl (l.take k) ^^^ x := by
  rw [List.take_add_one, h]; exact xorl_snoc _ _
set_option maxRecDepth 100000 in
theorem xorl_lt (l : List Nat) (h : ∀ x ∈ l, x < 256) (k : Nat) : xorl (l.take k) < 256 := by
  induction k with
  | zero => simp [xorl]
  | succ k ih =>
    rcases hx : l[k]? with _ | x
    · rw [List.take_add_one, hx]; simpa using ih
    · rw [xorl_take l k x hx]; exact Nat.xor_lt_two_pow (n := 8) ih (h x (List.mem_of_getElem? hx))
set_option maxRecDepth 100000 in
theorem mulA_zero (a b : Nat) : mulA a b 0 = 0 := rfl
set_option maxRecDepth 100000 in
theorem redB_zero (n : Nat) : redB n 0 = n := rfl
end Go.Proofs.Ytipfoclmdbbjiaa

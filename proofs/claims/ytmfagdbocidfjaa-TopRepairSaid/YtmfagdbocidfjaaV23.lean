import Derived.Test.YtmfagdbocidfjaaV22
import Derived.Test.YtmfagdbocidfjaaV05
import Derived.Test.YtmfagdbocidfjaaV06
import Derived.IntWalk
/- Rows of byte rows that a call made itself and appends to. Lemmas alone. -/
namespace Go.Proofs.Ytmfagdbocidfjaa
open Go.RowKit
/-- a row of bytes of one's own -/
def SlR (w : World) (B n : Nat) (f : Nat → Nat) (u : Value) : Prop := ∃ g k, u = .slice (some ⟨g, 0, none⟩) n k ∧ B ≤ g ∧ BRow w g n f ∧ n ≤ k ∧ k ≤ maxLen
set_option maxRecDepth 100000 in
theorem SlR.base {w : World} {B B' n : Nat} {f : Nat → Nat} {u : Value} (h : SlR w B n f u) (hB : B' ≤ B) : SlR w B' n f u := by
  obtain ⟨g, k, h1, h2, h3⟩ := h
  exact ⟨g, k, h1, by omega, h3⟩
set_option maxRecDepth 100000 in
theorem SlR.below {w w' : World} {B n : Nat} {f : Nat → Nat} {u : Value} (h : SlR w B n f u) (hb : Below w.heap.size w w') : SlR w' B n f u := by
  obtain ⟨g, k, h1, h2, h3, h4⟩ := h
  exact ⟨g, k, h1, h2, h3.below hb h3.lt, h4⟩
set_option maxRecDepth 100000 in
theorem SlR.congr {w : World} {B n : Nat} {f f' : Nat → Nat} {u : Value} (h : SlR w B n f u) (e : ∀ i, i < n → f i = f' i) : SlR w B n f' u := by
  obtain ⟨g, k, h1, h2, h3, h4⟩ := h
  exact ⟨g, k, h1, h2, h3.congr e, h4⟩
set_option maxRecDepth 100000 in
/-- another block, of another type, is written -/
theorem SlR.kept {w w' : World} {B n : Nat} {f : Nat → Nat} {u : Value} {row : Option Nat} (h : SlR w B n f u) (hg : w.grownBy w' row) (hr : ∀ p, row = some p → ∃ cur T fr, w.heap[p]? = some (.cells cur T fr) ∧ T ≠ 5) : SlR w' B n f u := by
  obtain ⟨g, k, h1, h2, h3, h4⟩ := h
  refine ⟨g, k, h1, h2, ?_, h4⟩
  refine h3.stay (hg.block g h3.lt ?_)
  intro e
  obtain ⟨cur, T, fr, h5, h6⟩ := hr g e.symm
  obtain ⟨D, h7, _⟩ := h3
  rw [h5] at h7
  injection h7 with h7
  injection h7 with _ h8
  exact h6 h8
def OwnS (w : World) (base : Nat) (v : Value) (m n : Nat) (V : Nat → Nat → Nat) : Prop :=
  ∃ A : Nat → Value, w.ownsRow base 71 1 v m ((List.range m).map A) ∧ ∀ i, i < m → SlR w base n (V i) (A i)
set_option maxRecDepth 100000 in
theorem OwnS.nil (w : World) (base n : Nat) (V : Nat → Nat → Nat) : OwnS w base (.slice none 0 0) 0 n V := ⟨fun _ => undef, World.ownsRow_nil _ _ _ _, fun i hi => absurd hi (by omega)⟩
set_option maxRecDepth 100000 in
theorem OwnS.lt {w : World} {base m n : Nat} {v : Value} {V : Nat → Nat → Nat} (h : OwnS w base v m n V) : ∀ g, v.ownBlock = some g → base ≤ g ∧ g < w.heap.size := by
  obtain ⟨A, h1, _⟩ := h
  exact World.ownsRow.lt h1
set_option maxRecDepth 100000 in
theorem OwnS.congr {w : World} {base m n : Nat} {v : Value} {V V' : Nat → Nat → Nat} (h : OwnS w base v m n V) (e : ∀ i j, i < m → j < n → V i j = V' i j) : OwnS w base v m n V' := by
  obtain ⟨A, h1, h2⟩ := h
  exact ⟨A, h1, fun i hi => (h2 i hi).congr fun j hj => e i j hi hj⟩
set_option maxRecDepth 100000 in
theorem own_below {w w' : World} {base n : Nat} {T : TypeId} {v : Value} {l : List Value} (h : w.ownsRow base T 1 v n l) (hb : Below w.heap.size w w') : w'.ownsRow base T 1 v n l := by
  refine ⟨h.1, ?_⟩
  rcases h.2 with h1 | ⟨g, cap, cur, hv, h2, hg, h3⟩
  · exact .inl h1
  · exact .inr ⟨g, cap, cur, hv, h2, (hb.block g (Array.getElem?_eq_some_iff.1 hg).1).trans hg, h3⟩
set_option maxRecDepth 100000 in
theorem OwnS.below {w w' : World} {base m n : Nat} {v : Value} {V : Nat → Nat → Nat} (h : OwnS w base v m n V) (hb : Below w.heap.size w w') : OwnS w' base v m n V := by
  obtain ⟨A, h1, h2⟩ := h
  exact ⟨A, own_below h1 hb, fun i hi => (h2 i hi).below hb⟩
set_option maxRecDepth 100000 in
/-- the row of slices' own block holds slices -/
theorem own_type {w : World} {base n : Nat} {T : TypeId} {v : Value} {l : List Value} (h : w.ownsRow base T 1 v n l) (p : Nat) (hp : v.ownBlock = some p) : ∃ cur fr, w.heap[p]? = some (.cells cur T fr) := by
  rcases h.2 with ⟨h1, _⟩ | ⟨g, cap, cur, hv, h2, hg, h3⟩
  · rw [h1] at hp; simp [Value.ownBlock] at hp
  · rw [hv] at hp
    simp [Value.ownBlock] at hp
    subst hp
    exact ⟨cur, _, hg⟩
set_option maxRecDepth 100000 in
theorem OwnS.kept {w w' : World} {base m n : Nat} {v : Value} {V : Nat → Nat → Nat} {row : Option Nat} (h : OwnS w base v m n V) (hg : w.grownBy w' row) (hne : v.ownBlock = none ∨ v.ownBlock ≠ row)
    (hr : ∀ p, row = some p → ∃ cur T fr, w.heap[p]? = some (.cells cur T fr) ∧ T ≠ 5) : OwnS w' base v m n V := by
  obtain ⟨A, h1, h2⟩ := h
  exact ⟨A, World.ownsRow.kept h1 hg hne, fun i hi => (h2 i hi).kept hg hr⟩
set_option maxRecDepth 100000 in
theorem OwnS.open {w : World} {base m n : Nat} {v : Value} {V : Nat → Nat → Nat} (h : OwnS w base v m n V) : ∃ s cap, v = .slice s m cap ∧ RowsAt w s m n V ∧ m ≤ cap ∧ cap ≤ maxLen ∧ (s = none → m = 0 ∧ cap = 0) := by
  obtain ⟨A, h1, h2⟩ := h
  rcases h1.2 with ⟨h3, h4⟩ | ⟨g, cap, cur, hv, hb, hg, q1, q2, q3, q4⟩
  · subst h4
    exact ⟨none, 0, h3, fun i hi => absurd hi (by omega), Nat.le_refl _, by unfold maxLen; omega, fun _ => ⟨rfl, rfl⟩⟩
  · refine ⟨some ⟨g, 0, none⟩, cap, hv, fun i hi => ?_, q1, q2, (fun e => by cases e)⟩
    obtain ⟨b, k, e1, e2, e3, _⟩ := h2 i hi
    refine ⟨g, 0, some ⟨b, 0, none⟩, k, rfl, ?_, e3.by⟩
    rw [Nat.zero_add, cell_of_block hg, ← e1]
    have e : ((List.range m).map A)[i]? = some (A i) := by simp [hi]
    rw [← q4, List.getElem?_take, if_pos (by omega), Array.getElem?_toList] at e
    exact e
/-- two lists of rows, one behind the other -/
def catV (m : Nat) (V U : Nat → Nat → Nat) (i : Nat) : Nat → Nat := if i < m then V i else U (i - m)
set_option maxRecDepth 100000 in
theorem map_cat (m c : Nat) (A A' : Nat → Value) : (List.range m).map A ++ (List.range c).map A' = (List.range (m + c)).map (fun i => if i < m then A i else A' (i - m)) := by
  apply List.ext_getElem?
  intro i
  by_cases h1 : i < m
  · rw [List.getElem?_append_left (by simpa using h1)]
    simp [h1, show i < m + c by omega]
  · rw [List.getElem?_append_right (by simpa using h1)]
    by_cases h2 : i < m + c
    · simp [h1, h2, show i - m < c by omega]
    · simp [h2, show ¬ i - m < c by omega]
set_option maxRecDepth 100000 in
/-- append(s, p...) of rows -/
theorem run_catS (w : World) (v : Value) (base m n c cp : Nat) (V U : Nat → Nat → Nat) (q : Nat) (A' : Nat → Value) (ty : TypeId) (hown : OwnS w base v m n V)
    (hc : ∀ i, i < c → w.cell? ⟨q, i, none⟩ = some (A' i)) (hA : ∀ i, i < c → SlR w base n (U i) (A' i)) (hm : m + c ≤ 1000000) (hbase : base ≤ w.heap.size) :
    ∃ v' w', (Builtin.append_ #[68, 68] ty #[v, .slice (some ⟨q, 0, none⟩) c cp]).run Try.prog w = .ok v' w' ∧ OwnS w' base v' (m + c) n (catV m V U) ∧ w.grownBy w' v.ownBlock := by
  obtain ⟨i0, hi, hz0, hz1, hz2⟩ := info_parts infoS
  obtain ⟨A, h1, h2⟩ := hown
  obtain ⟨v', w', hr, h3, h4, _⟩ := run_append_own (P := Try.prog) w base 68 ty 71 i0 (.slice none 0 0) 1 24 Try.underlying68 hi hz0 hz1 hz2 rfl (by decide) v m _ h1 ⟨q, 0, none⟩ c cp ((List.range c).map A') (by simp) (by
    intro j u hj
    have hjc : j < c := by have := (List.getElem?_eq_some_iff.1 hj).1; simpa using this
    simp [hjc] at hj
    subst hj
    have := hc j hjc
    by_cases hz : j = 0
    · subst hz; simpa [Addr.add] using this
    · simpa [Addr.add, hz] using this) (by
    intro u hu
    obtain ⟨j, hj, rfl⟩ := List.mem_map.1 hu
    obtain ⟨g, k, e, _⟩ := hA j (by simpa using hj)
    rw [e]; rfl) (by unfold maxLen; omega) (by omega) hbase
  have hty : ∀ p, v.ownBlock = some p → ∃ cur T fr, w.heap[p]? = some (.cells cur T fr) ∧ T ≠ 5 := fun p hp => by
    obtain ⟨cur, fr, h5⟩ := own_type h1 p hp
    exact ⟨cur, _, fr, h5, by decide⟩
  refine ⟨v', w', hr, ⟨_, by rw [map_cat] at h3; exact h3, fun i hi => ?_⟩, h4⟩
  unfold catV
  by_cases him : i < m
  · rw [if_pos him, if_pos him]
    exact (h2 i him).kept h4 hty
  · rw [if_neg him, if_neg him]
    exact (hA (i - m) (by omega)).kept h4 hty
set_option maxRecDepth 100000 in
/-- append(s, x), one row -/
theorem run_snocS (W : World) (v : Value) (base m n : Nat) (V : Nat → Nat → Nat) (u : Value) (ty : TypeId) (hown : OwnS W base v m n V) (hu : SlR W base n (V m) u) (hm : m ≤ 900000) (hbase : base ≤ W.heap.size) :
    ∃ v' w', (Builtin.append_ #[68, 68] ty #[v, .slice (some ⟨W.heap.size, 0, none⟩) 1 1]).run Try.prog (W.alloc (.cells #[u] 71)) = .ok v' w' ∧ OwnS w' base v' (m + 1) n V ∧ W.grownBy w' v.ownBlock := by
  have hb : Below W.heap.size W (W.alloc (.cells #[u] 71)) := below_one W _
  have hsz : (W.alloc (.cells #[u] 71)).heap.size = W.heap.size + 1 := by show (W.heap.push _).size = _; rw [Array.size_push]
  obtain ⟨v', w', hr, h1, h2⟩ := run_catS (W.alloc (.cells #[u] 71)) v base m n 1 1 V (fun _ => V m) W.heap.size (fun _ => u) ty (hown.below hb) (by
    intro i hi
    obtain rfl : i = 0 := by omega
    rw [cell_of_block (last_block0 W (.cells #[u] 71) _ rfl)]
    rfl) (fun i _ => hu.below hb) (by omega) (by omega)
  refine ⟨v', w', hr, h1.congr (fun i j hi _ => ?_), ⟨h2.os, h2.tape, h2.output, by have := h2.size; omega, fun i hi hne => (h2.block i (by omega) hne).trans (Below.heap_alloc W _ i hi)⟩⟩
  unfold catV
  by_cases him : i < m
  · rw [if_pos him]
  · rw [if_neg him, show i = m by omega]
set_option maxRecDepth 100000 in
/-- Apply's rows -/
theorem ApAt.cells {wr W : World} {g R n : Nat} {G : Nat → Nat → Nat} {D : Array Value} (h : ApAt wr W g R n R G D) (hn : n ≤ 100000) : ∃ A : Nat → Value, ∀ i, i < R → wr.cell? ⟨g, i, none⟩ = some (A i) ∧ SlR wr g n (G i) (A i) := by
  refine ⟨fun i => (D[i]?).getD undef, fun i hi => ?_⟩
  obtain ⟨q, h1, h2, h3⟩ := h.done i hi
  refine ⟨by rw [cell_of_block h.b, h1]; simp [h1], q, n, by simp [h1], by omega, h3, Nat.le_refl _, by unfold maxLen; omega⟩
end Go.Proofs.Ytmfagdbocidfjaa

/- Sorting a list of shards that is sorted already: nothing moves. Conditions: what the blocks hold. -/
namespace Go.Proofs.Ytmfagdbocidfjaa
open Go.RowKit
set_option maxRecDepth 100000 in
set_option maxHeartbeats 4000000 in
theorem so_cmp (a b : Nat) (x y : Value) (w : World) (ha : a ≤ 1000) (hb : b ≤ 1000) :
    Calls Try.prog 111 #[.agg #[.int .i64 (a : Nat), x], .agg #[.int .i64 (b : Nat), y]] w (fun e w' => e = .returned (.int .i64 ((a : Int) - (b : Int))) ∧ Below w.heap.size w w') := by
  have hw : IntKind.i64.wrap ((a : Int) - (b : Int)) = (a : Int) - (b : Int) := IntWalk.i64_in _ (by omega)
  have hB : Hid (∀ o p, Below w.heap.size w ((w.alloc o).alloc p)) := hide (fun o p => ((Below.refl _ _).alloc (Nat.le_refl _) _).alloc (by show _ ≤ (w.heap.push _).size; rw [Array.size_push]; omega) _)
  clear ha hb
  go_enter Try.func111, Try.ntmps111
  go_wp2_with fail
  go_ret
  exact ⟨rfl, hB.out _ _⟩
/-- shards' cells: a number and a slice each -/
def SdC (b off n : Nat) (I G c : Nat → Nat) (y : World) : Prop := ∀ j, j < n → y.cell? ⟨b, off + j * 2, none⟩ = some (.int .i64 (I j : Nat)) ∧ y.cell? ⟨b, off + j * 2 + 1, none⟩ = some (.slice (some ⟨G j, 0, none⟩) 2 (c j))
set_option maxRecDepth 100000 in
theorem SdC.below {b off n : Nat} {I G c : Nat → Nat} {w w' : World} (h : SdC b off n I G c w) (hb : Below w.heap.size w w') : SdC b off n I G c w' := fun j hj =>
  ⟨(hb.cell (cell_block_lt (h j hj).1)).trans (h j hj).1, (hb.cell (cell_block_lt (h j hj).2)).trans (h j hj).2⟩
def InsRel (w : World) (n : Nat) (v8 : Value) (wr : World) : Prop := ∃ i : Nat, 1 ≤ i ∧ (i ≤ n ∨ i = 1) ∧ v8 = .int .i64 (i : Nat) ∧ Below w.heap.size w wr
set_option maxRecDepth 100000 in
set_option maxHeartbeats 4000000 in
theorem so_ins (b off n cap : Nat) (I G c : Nat → Nat) (w : World) (h : SdC b off n I G c w) (hn : n ≤ 12) (hI : ∀ j, j < n → I j ≤ 1000) (hs : ∀ j, j + 1 < n → I j < I (j + 1)) :
    Calls Try.prog 131 #[.slice (some ⟨b, off, none⟩) n cap, .int .i64 0, .int .i64 (n : Nat), .func (.func 111) #[] #[]] w (fun e w' => e = .returned (.tuple #[]) ∧ Below w.heap.size w w') := by
  have hh := Lib.hid h
  have hIh := Lib.hid hI
  have hsh := Lib.hid hs
  clear h hI hs
  have u0 : IntKind.i64.wrap 1 = 1 := rfl
  go_enter Try.func131, Try.ntmps131
  go_upto_region 1 with (fail)
  go_loopw [8] (fun v8 wr => InsRel w n v8 wr) (fun v8 _ => n - (intOf v8).toNat)
  case atStart => exact ⟨1, by omega, .inr rfl, rfl, Below.refl _ _⟩
  case round =>
    obtain ⟨i, hi1, hin, rfl, hB⟩ := hrel
    have hBh := Lib.hid hB
    clear hB
    by_cases hlt : i < n
    · have i1 : (i : Int) < (n : Int) := by omega
      have i2 : (0 : Int) < (i : Int) := by omega
      have i3 : 0 < i := by omega
      have i4 : decide (0 < i) = true := decide_eq_true i3
      have iw : IntKind.i64.wrap ((i : Int) - 1) = ((i - 1 : Nat) : Int) := by rw [IntWalk.i64_in _ (by omega)]; omega
      have d1 : decide ((n : Int) ≤ (i : Int)) = false := decide_eq_false (by omega)
      have ic : ((i - 1 : Nat) : Int) < (n : Int) := by omega
      have ic0 : (0 : Int) ≤ ((i - 1 : Nat) : Int) := by omega
      have in1 : i < n := hlt
      have in2 : i - 1 < n := by omega
      have hS : Hid (∀ y, Below wr.heap.size wr y → (fun y : World => y.cell? ⟨b, off + i * 2, none⟩ = some (.int .i64 (I i : Nat)) ∧ y.cell? ⟨b, off + i * 2 + 1, none⟩ = some (.slice (some ⟨G i, 0, none⟩) 2 (c i)) ∧ y.cell? ⟨b, off + (i - 1) * 2, none⟩ = some (.int .i64 (I (i - 1) : Nat)) ∧ y.cell? ⟨b, off + (i - 1) * 2 + 1, none⟩ = some (.slice (some ⟨G (i - 1), 0, none⟩) 2 (c (i - 1)))) y) := hide (fun y hy =>
        have h1 := (hh.out.below (hBh.out.trans (hy.mono hBh.out.size))) i hlt
        have h2 := (hh.out.below (hBh.out.trans (hy.mono hBh.out.size))) (i - 1) (by omega)
        ⟨h1.1, h1.2, h2.1, h2.2⟩)
      go_upto_region 4 with (fail)
      generalize wr = wo at *
      go_loopw [9] (fun v9 wq => v9 = .int .i64 (i : Nat) ∧ Below wo.heap.size wo wq) (fun _ _ => 0)
      case atStart => exact ⟨rfl, Below.refl _ _⟩
      case round =>
        obtain ⟨rfl, hBq⟩ := hrel
        have hBqd : Hid (Below wo.heap.size wo wr.drew) := hide (below_drewN hBq 1)
        clear hBq
        go_upto_region 4 with (fail)
        have hHeld := hS.out _ hBqd.out
        refine h_begin 17 (fun y : World => y.cell? ⟨b, off + i * 2, none⟩ = some (.int .i64 (I i : Nat)) ∧ y.cell? ⟨b, off + i * 2 + 1, none⟩ = some (.slice (some ⟨G i, 0, none⟩) 2 (c i)) ∧ y.cell? ⟨b, off + (i - 1) * 2, none⟩ = some (.int .i64 (I (i - 1) : Nat)) ∧ y.cell? ⟨b, off + (i - 1) * 2 + 1, none⟩ = some (.slice (some ⟨G (i - 1), 0, none⟩) 2 (c (i - 1)))) rfl (by kernel_rfl) hHeld ?_
        first
          | (refine h_run (i := 0) (v := ?_) hHeld rfl (by kernel_rfl) (by kernel_rfl) (by kernel_rfl) ?_ ?_ ?_
             rotate_left
             · rfl
             · (intro x hSx; (try dsimp only at hSx); go_simp <;> with_reducible rfl)
             simp only [Act.put, List.setIfInBounds_toArray, List.set_cons_zero, List.set_cons_succ])
          | (refine h_skip (i := 0) hHeld rfl (by kernel_rfl) (by kernel_rfl) (by kernel_rfl) ?_ ?_
             · rfl
             simp only [Act.put, List.setIfInBounds_toArray, List.set_cons_zero, List.set_cons_succ])
        first
          | (refine h_run (i := 1) (v := ?_) hHeld rfl (by kernel_rfl) (by kernel_rfl) (by kernel_rfl) ?_ ?_ ?_
             rotate_left
             · rfl
             · (intro x hSx; (try dsimp only at hSx); go_simp <;> with_reducible rfl)
             simp only [Act.put, List.setIfInBounds_toArray, List.set_cons_zero, List.set_cons_succ])
          | (refine h_skip (i := 1) hHeld rfl (by kernel_rfl) (by kernel_rfl) (by kernel_rfl) ?_ ?_
             · rfl
             simp only [Act.put, List.setIfInBounds_toArray, List.set_cons_zero, List.set_cons_succ])
        first
          | (refine h_run (i := 2) (v := ?_) hHeld rfl (by kernel_rfl) (by kernel_rfl) (by kernel_rfl) ?_ ?_ ?_
             rotate_left
             · rfl
             · (intro x hSx; (try dsimp only at hSx); go_simp <;> with_reducible rfl)
             simp only [Act.put, List.setIfInBounds_toArray, List.set_cons_zero, List.set_cons_succ])
          | (refine h_skip (i := 2) hHeld rfl (by kernel_rfl) (by kernel_rfl) (by kernel_rfl) ?_ ?_
             · rfl
             simp only [Act.put, List.setIfInBounds_toArray, List.set_cons_zero, List.set_cons_succ])
        first
          | (refine h_run (i := 3) (v := ?_) hHeld rfl (by kernel_rfl) (by kernel_rfl) (by kernel_rfl) ?_ ?_ ?_
             rotate_left
             · rfl
             · (intro x hSx; (try dsimp only at hSx); go_simp <;> with_reducible rfl)
             simp only [Act.put, List.setIfInBounds_toArray, List.set_cons_zero, List.set_cons_succ])
          | (refine h_skip (i := 3) hHeld rfl (by kernel_rfl) (by kernel_rfl) (by kernel_rfl) ?_ ?_
             · rfl
             simp only [Act.put, List.setIfInBounds_toArray, List.set_cons_zero, List.set_cons_succ])
        first
          | (refine h_run (i := 4) (v := ?_) hHeld rfl (by kernel_rfl) (by kernel_rfl) (by kernel_rfl) ?_ ?_ ?_
             rotate_left
             · rfl
             · (intro x hSx; (try dsimp only at hSx); go_simp <;> with_reducible rfl)
             simp only [Act.put, List.setIfInBounds_toArray, List.set_cons_zero, List.set_cons_succ])
          | (refine h_skip (i := 4) hHeld rfl (by kernel_rfl) (by kernel_rfl) (by kernel_rfl) ?_ ?_
             · rfl
             simp only [Act.put, List.setIfInBounds_toArray, List.set_cons_zero, List.set_cons_succ])
        first
          | (refine h_run (i := 5) (v := ?_) hHeld rfl (by kernel_rfl) (by kernel_rfl) (by kernel_rfl) ?_ ?_ ?_
             rotate_left
             · rfl
             · (intro x hSx; (try dsimp only at hSx); go_simp <;> with_reducible rfl)
             simp only [Act.put, List.setIfInBounds_toArray, List.set_cons_zero, List.set_cons_succ])
          | (refine h_skip (i := 5) hHeld rfl (by kernel_rfl) (by kernel_rfl) (by kernel_rfl) ?_ ?_
             · rfl
             simp only [Act.put, List.setIfInBounds_toArray, List.set_cons_zero, List.set_cons_succ])
        first
          | (refine h_run (i := 6) (v := ?_) hHeld rfl (by kernel_rfl) (by kernel_rfl) (by kernel_rfl) ?_ ?_ ?_
             rotate_left
             · rfl
             · (intro x hSx; (try dsimp only at hSx); go_simp <;> with_reducible rfl)
             simp only [Act.put, List.setIfInBounds_toArray, List.set_cons_zero, List.set_cons_succ])
          | (refine h_skip (i := 6) hHeld rfl (by kernel_rfl) (by kernel_rfl) (by kernel_rfl) ?_ ?_
             · rfl
             simp only [Act.put, List.setIfInBounds_toArray, List.set_cons_zero, List.set_cons_succ])
        first
          | (refine h_run (i := 7) (v := ?_) hHeld rfl (by kernel_rfl) (by kernel_rfl) (by kernel_rfl) ?_ ?_ ?_
             rotate_left
             · rfl
             · (intro x hSx; (try dsimp only at hSx); go_simp <;> with_reducible rfl)
             simp only [Act.put, List.setIfInBounds_toArray, List.set_cons_zero, List.set_cons_succ])
          | (refine h_skip (i := 7) hHeld rfl (by kernel_rfl) (by kernel_rfl) (by kernel_rfl) ?_ ?_
             · rfl
             simp only [Act.put, List.setIfInBounds_toArray, List.set_cons_zero, List.set_cons_succ])
        first
          | (refine h_run (i := 8) (v := ?_) hHeld rfl (by kernel_rfl) (by kernel_rfl) (by kernel_rfl) ?_ ?_ ?_
             rotate_left
             · rfl
             · (intro x hSx; (try dsimp only at hSx); go_simp <;> with_reducible rfl)
             simp only [Act.put, List.setIfInBounds_toArray, List.set_cons_zero, List.set_cons_succ])
          | (refine h_skip (i := 8) hHeld rfl (by kernel_rfl) (by kernel_rfl) (by kernel_rfl) ?_ ?_
             · rfl
             simp only [Act.put, List.setIfInBounds_toArray, List.set_cons_zero, List.set_cons_succ])
        first
          | (refine h_run (i := 9) (v := ?_) hHeld rfl (by kernel_rfl) (by kernel_rfl) (by kernel_rfl) ?_ ?_ ?_
             rotate_left
             · rfl
             · (intro x hSx; (try dsimp only at hSx); go_simp <;> with_reducible rfl)
             simp only [Act.put, List.setIfInBounds_toArray, List.set_cons_zero, List.set_cons_succ])
          | (refine h_skip (i := 9) hHeld rfl (by kernel_rfl) (by kernel_rfl) (by kernel_rfl) ?_ ?_
             · rfl
             simp only [Act.put, List.setIfInBounds_toArray, List.set_cons_zero, List.set_cons_succ])
        first
          | (refine h_run (i := 10) (v := ?_) hHeld rfl (by kernel_rfl) (by kernel_rfl) (by kernel_rfl) ?_ ?_ ?_
             rotate_left
             · rfl
             · (intro x hSx; (try dsimp only at hSx); go_simp <;> with_reducible rfl)
             simp only [Act.put, List.setIfInBounds_toArray, List.set_cons_zero, List.set_cons_succ])
          | (refine h_skip (i := 10) hHeld rfl (by kernel_rfl) (by kernel_rfl) (by kernel_rfl) ?_ ?_
             · rfl
             simp only [Act.put, List.setIfInBounds_toArray, List.set_cons_zero, List.set_cons_succ])
        first
          | (refine h_run (i := 11) (v := ?_) hHeld rfl (by kernel_rfl) (by kernel_rfl) (by kernel_rfl) ?_ ?_ ?_
             rotate_left
             · rfl
             · (intro x hSx; (try dsimp only at hSx); go_simp <;> with_reducible rfl)
             simp only [Act.put, List.setIfInBounds_toArray, List.set_cons_zero, List.set_cons_succ])
          | (refine h_skip (i := 11) hHeld rfl (by kernel_rfl) (by kernel_rfl) (by kernel_rfl) ?_ ?_
             · rfl
             simp only [Act.put, List.setIfInBounds_toArray, List.set_cons_zero, List.set_cons_succ])
        first
          | (refine h_run (i := 12) (v := ?_) hHeld rfl (by kernel_rfl) (by kernel_rfl) (by kernel_rfl) ?_ ?_ ?_
             rotate_left
             · rfl
             · (intro x hSx; (try dsimp only at hSx); go_simp <;> with_reducible rfl)
             simp only [Act.put, List.setIfInBounds_toArray, List.set_cons_zero, List.set_cons_succ])
          | (refine h_skip (i := 12) hHeld rfl (by kernel_rfl) (by kernel_rfl) (by kernel_rfl) ?_ ?_
             · rfl
             simp only [Act.put, List.setIfInBounds_toArray, List.set_cons_zero, List.set_cons_succ])
        first
          | (refine h_run (i := 13) (v := ?_) hHeld rfl (by kernel_rfl) (by kernel_rfl) (by kernel_rfl) ?_ ?_ ?_
             rotate_left
             · rfl
             · (intro x hSx; (try dsimp only at hSx); go_simp <;> with_reducible rfl)
             simp only [Act.put, List.setIfInBounds_toArray, List.set_cons_zero, List.set_cons_succ])
          | (refine h_skip (i := 13) hHeld rfl (by kernel_rfl) (by kernel_rfl) (by kernel_rfl) ?_ ?_
             · rfl
             simp only [Act.put, List.setIfInBounds_toArray, List.set_cons_zero, List.set_cons_succ])
        clear hHeld
        refine h_call (i := 14) (fun y : World => y.cell? ⟨b, off + i * 2, none⟩ = some (.int .i64 (I i : Nat)) ∧ y.cell? ⟨b, off + i * 2 + 1, none⟩ = some (.slice (some ⟨G i, 0, none⟩) 2 (c i)) ∧ y.cell? ⟨b, off + (i - 1) * 2, none⟩ = some (.int .i64 (I (i - 1) : Nat)) ∧ y.cell? ⟨b, off + (i - 1) * 2 + 1, none⟩ = some (.slice (some ⟨G (i - 1), 0, none⟩) 2 (c (i - 1)))) (fun _ h => h) (so_cmp (I i) (I (i - 1)) (.slice (some ⟨G i, 0, none⟩) 2 (c i)) (.slice (some ⟨G (i - 1), 0, none⟩) 2 (c (i - 1))) wr.drew (hIh.out i in1) (hIh.out (i - 1) in2)) rfl (by kernel_rfl) rfl ?_ ?_
        · go_simp <;> with_reducible rfl
        rintro _ w6 ⟨rfl, hB6⟩
        have hB6h : Hid (Below wo.heap.size wo w6) := hide (hBqd.out.trans (hB6.mono hBqd.out.size))
        clear hB6
        refine ⟨_, rfl, hS.out _ hB6h.out, ?_⟩
        try simp only [Act.put, List.setIfInBounds_toArray, List.set_cons_zero, List.set_cons_succ]
        have hHeld := hS.out _ hB6h.out
        have dl : decide ((I i : Int) - (I (i - 1) : Int) < 0) = false := decide_eq_false (by have := hsh.out (i - 1) (by omega); rw [show i - 1 + 1 = i by omega] at this; omega)
        first
          | (refine h_run (i := 15) (v := ?_) hHeld rfl (by kernel_rfl) (by kernel_rfl) (by kernel_rfl) ?_ ?_ ?_
             rotate_left
             · rfl
             · (intro x hSx; (try dsimp only at hSx); go_simp <;> with_reducible rfl)
             simp only [Act.put, List.setIfInBounds_toArray, List.set_cons_zero, List.set_cons_succ])
          | (refine h_skip (i := 15) hHeld rfl (by kernel_rfl) (by kernel_rfl) (by kernel_rfl) ?_ ?_
             · rfl
             simp only [Act.put, List.setIfInBounds_toArray, List.set_cons_zero, List.set_cons_succ])
        first
          | (refine h_run (i := 16) (v := ?_) hHeld rfl (by kernel_rfl) (by kernel_rfl) (by kernel_rfl) ?_ ?_ ?_
             rotate_left
             · rfl
             · (intro x hSx; (try dsimp only at hSx); go_simp <;> with_reducible rfl)
             simp only [Act.put, List.setIfInBounds_toArray, List.set_cons_zero, List.set_cons_succ])
          | (refine h_skip (i := 16) hHeld rfl (by kernel_rfl) (by kernel_rfl) (by kernel_rfl) ?_ ?_
             · rfl
             simp only [Act.put, List.setIfInBounds_toArray, List.set_cons_zero, List.set_cons_succ])
        clear hHeld dl
        refine h_done (by kernel_rfl) ?_
        try simp only [Act.put, List.setIfInBounds_toArray, List.set_cons_zero, List.set_cons_succ]
        have iw2 : IntKind.i64.wrap ((i : Int) + 1) = ((i + 1 : Nat) : Int) := by rw [IntWalk.i64_in _ (by omega)]; omega
        have hR : Hid (InsRel w n (.int .i64 ((i + 1 : Nat) : Int)) w6) := hide ⟨i + 1, by omega, by omega, rfl, hBh.out.trans (hB6h.out.mono hBh.out.size)⟩
        go_wp2_with fail
        refine ⟨?_, ?_⟩
        rotate_left
        · simp [intOf]; omega
        first
          | exact hR.out
          | (repeat (apply Exists.intro)
             exact ⟨hR.out, rfl⟩)
    · have i1 : decide ((i : Int) < (n : Int)) = false := decide_eq_false (by omega)
      have i2 : decide (i < n) = false := decide_eq_false hlt
      go_wp2_with fail
      go_end0
      exact ⟨rfl, hBh.out⟩
end Go.Proofs.Ytmfagdbocidfjaa

/- Sorting a short list of shards that is sorted already. Conditions: what the blocks hold. -/
namespace Go.Proofs.Ytmfagdbocidfjaa
open Go.RowKit
set_option maxRecDepth 100000 in
set_option maxHeartbeats 4000000 in
theorem so_len64 (n : Nat) (w : World) (hn : n ≤ 8) : Calls Try.prog 140 #[.int .u64 (n : Nat)] w (fun e w' => (∃ z : Int, e = .returned (.int .i64 z)) ∧ w = w') := by
  obtain rfl | rfl | rfl | rfl | rfl | rfl | rfl | rfl | rfl : n = 0 ∨ n = 1 ∨ n = 2 ∨ n = 3 ∨ n = 4 ∨ n = 5 ∨ n = 6 ∨ n = 7 ∨ n = 8 := by omega
  all_goals
    clear hn
    go_enter Try.func140, Try.ntmps140
    go_wp2_with fail
    go_ret
    exact ⟨⟨_, rfl⟩, rfl⟩
set_option maxRecDepth 100000 in
set_option maxHeartbeats 4000000 in
theorem so_len (n : Nat) (w : World) (hn : n ≤ 8) : Calls Try.prog 126 #[.int .u64 (n : Nat)] w (fun e w' => (∃ z : Int, e = .returned (.int .i64 z)) ∧ w = w') := by
  have h := Lib.hid (so_len64 n w hn)
  have hw : IntKind.u64.wrap (n : Int) = (n : Int) := IntWalk.u64_in _ (by omega)
  clear hn
  go_enter Try.func126, Try.ntmps126
  go_wp2_with fail
  refine h.out.mono ?_
  rintro _ w2 ⟨⟨z, rfl⟩, rfl⟩
  go_wp2_with fail
  go_ret
  exact ⟨⟨_, rfl⟩, rfl⟩
set_option maxRecDepth 100000 in
set_option maxHeartbeats 4000000 in
theorem so_pdq (b off n cap : Nat) (z : Int) (I G c : Nat → Nat) (w : World) (h : SdC b off n I G c w) (hn : n ≤ 8) (hI : ∀ j, j < n → I j ≤ 1000) (hs : ∀ j, j + 1 < n → I j < I (j + 1)) :
    Calls Try.prog 125 #[.slice (some ⟨b, off, none⟩) n cap, .int .i64 0, .int .i64 (n : Nat), .int .i64 z, .func (.func 111) #[] #[]] w (fun e w' => e = .returned (.tuple #[]) ∧ Below w.heap.size w w') := by
  have hh := Lib.hid (so_ins b off n cap I G c w h (by omega) hI hs)
  have d0 : IntKind.i64.wrap ((n : Int) - 0) = (n : Int) := IntWalk.i64_in _ (by omega)
  have d1 : (n : Int) ≤ 12 := by omega
  have d2 : n ≤ 12 := by omega
  clear h hI hs hn
  go_enter Try.func125, Try.ntmps125
  go_upto_region 2 with (fail)
  go_loopw [1, 2] (fun v1 v2 wr => v1 = .int .i64 0 ∧ v2 = .int .i64 (n : Nat) ∧ w = wr) (fun _ _ _ => 0)
  case atStart => exact ⟨rfl, rfl, rfl⟩
  case round =>
    obtain ⟨rfl, rfl, rfl⟩ := hrel
    go_wp2_with fail
    refine hh.out.mono ?_
    rintro _ w2 ⟨rfl, hB⟩
    go_wp2_with fail
    (try simp only [Exit.inBlock, Exit.then])
    refine bodyPost_ret (results_none rfl _ _ _) rfl ?_
    exact ⟨rfl, hB⟩
set_option maxRecDepth 100000 in
set_option maxHeartbeats 4000000 in
theorem so_sort (b off n cap : Nat) (I G c : Nat → Nat) (w : World) (h : SdC b off n I G c w) (hn : n ≤ 8) (hI : ∀ j, j < n → I j ≤ 1000) (hs : ∀ j, j + 1 < n → I j < I (j + 1)) :
    Calls Try.prog 110 #[.slice (some ⟨b, off, none⟩) n cap, .func (.func 111) #[] #[]] w (fun e w' => e = .returned (.tuple #[]) ∧ Below w.heap.size w w') := by
  have hl := Lib.hid (so_len n w hn)
  have hp := Lib.hid (fun z => so_pdq b off n cap z I G c w h hn hI hs)
  have hw : IntKind.u64.wrap (n : Int) = (n : Int) := IntWalk.u64_in _ (by omega)
  clear h hI hs hn
  go_enter Try.func110, Try.ntmps110
  go_wp2_with fail
  refine hl.out.mono ?_
  rintro _ w2 ⟨⟨z, rfl⟩, rfl⟩
  go_wp2_with fail
  refine (hp.out z).mono ?_
  rintro _ w2 ⟨rfl, hB⟩
  go_wp2_with fail
  go_end0
  exact ⟨rfl, hB⟩
end Go.Proofs.Ytmfagdbocidfjaa

/- What the law of meeting holds: two ends, two queues. Lemmas alone. -/
import Derived.Test.YtdpngimcmohmaaaShQ
import Derived.Test.YtdpngimcmohmaaaOwnZ
namespace Go.Proofs.Ytdpngimcmohmaaa
open Go.RowKit
def upd {α : Type} (f : Nat → α) (i : Nat) (x : α) (j : Nat) : α := if j = i then x else f j
set_option maxRecDepth 100000 in
theorem upd_same {α : Type} (f : Nat → α) (i : Nat) (x : α) : upd f i x i = x := if_pos rfl
set_option maxRecDepth 100000 in
theorem upd_ne {α : Type} (f : Nat → α) {i j : Nat} (x : α) (h : j ≠ i) : upd f i x j = f j := if_neg h
structure MtAt (w wr : World) (t7 t8 : Nat) (p : Nat → Nat) (e : Nat → ShS) (v : Nat → Value) (Q : Nat → List Msg) : Prop where
  b7 : wr.heap[t7]? = some (.cells #[.pointer (some ⟨p 0, 0, none⟩), .pointer (some ⟨p 1, 0, none⟩)] 29 (0, 0))
  b8 : wr.heap[t8]? = some (.cells #[v 0, v 1] 31 (0, 0))
  sh : ∀ j, j < 2 → ShAt wr (p j) (e j)
  qu : ∀ j, j < 2 → QAt wr w.heap.size (v j) (Q j)
  ne : p 0 ≠ p 1
  dj : ∀ b, (v 0).ownBlock = some b → (v 1).ownBlock ≠ some b
  lo : Below w.heap.size w wr
  l7 : w.heap.size ≤ t7
  l8 : w.heap.size ≤ t8
  lp : ∀ j, j < 2 → w.heap.size ≤ p j
section
variable {w wr : World} {t7 t8 : Nat} {p : Nat → Nat} {e : Nat → ShS} {v : Nat → Value} {Q : Nat → List Msg}
set_option maxRecDepth 100000 in
theorem two_cases {j : Nat} (h : j < 2) : j = 0 ∨ j = 1 := by omega
set_option maxRecDepth 100000 in
theorem MtAt.ptr (h : MtAt w wr t7 t8 p e v Q) {j : Nat} (hj : j < 2) : wr.cell? ⟨t7, j, none⟩ = some (.pointer (some ⟨p j, 0, none⟩)) := by
  rcases two_cases hj with rfl | rfl <;> exact (cell_of_block h.b7).trans rfl
set_option maxRecDepth 100000 in
theorem MtAt.way (h : MtAt w wr t7 t8 p e v Q) {j : Nat} (hj : j < 2) : wr.cell? ⟨t8, j, none⟩ = some (v j) ∧ wr.frozen? ⟨t8, j, none⟩ = false := by
  refine ⟨?_, frozen_of_row _ _ _ _ _ h.b8⟩
  rcases two_cases hj with rfl | rfl <;> exact (cell_of_block h.b8).trans rfl
set_option maxRecDepth 100000 in
theorem ty_ne2 {W : World} {a b : Nat} {C D : Array Value} {T U : TypeId} (h1 : W.heap[a]? = some (.cells C T (0, 0))) (h2 : W.heap[b]? = some (.cells D U (0, 0))) (hne : T ≠ U) : a ≠ b := by
  rintro rfl
  rw [h1] at h2
  injection h2 with h2
  injection h2 with _ h3
  exact hne h3
set_option maxRecDepth 100000 in
theorem MtAt.below {W' : World} (h : MtAt w wr t7 t8 p e v Q) (hb : Below wr.heap.size wr W') : MtAt w W' t7 t8 p e v Q :=
  ⟨(hb.block _ (Array.getElem?_eq_some_iff.1 h.b7).1).trans h.b7, (hb.block _ (Array.getElem?_eq_some_iff.1 h.b8).1).trans h.b8, fun j hj => (hb.block _ (Array.getElem?_eq_some_iff.1 (h.sh j hj)).1).trans (h.sh j hj),
   fun j hj => (h.qu j hj).kept (fun b hb' => by
    obtain ⟨_, C, hC⟩ := (h.qu j hj).lt b hb'
    exact hb.block b (Array.getElem?_eq_some_iff.1 hC).1), h.ne, h.dj, h.lo.trans (hb.mono h.lo.size), h.l7, h.l8, h.lp⟩
set_option maxRecDepth 100000 in
theorem MtAt.call {W' : World} {i : Nat} {s : ShS} (h : MtAt w wr t7 t8 p e v Q) (hi : i < 2) (hs : ShAt W' (p i) s) (hg : wr.grownBy W' (some (p i))) : MtAt w W' t7 t8 p (upd e i s) v Q := by
  have hp := h.sh i hi
  refine ⟨(hg.block _ (Array.getElem?_eq_some_iff.1 h.b7).1 (fun e => ty_ne2 h.b7 hp (by decide) (by injection e))).trans h.b7, (hg.block _ (Array.getElem?_eq_some_iff.1 h.b8).1 (fun e => ty_ne2 h.b8 hp (by decide) (by injection e))).trans h.b8, fun j hj => ?_,
    fun j hj => (h.qu j hj).kept (fun b hb' => ?_), h.ne, h.dj, below_grown h.lo (Nat.le_refl _) hg (fun q hq => by injection hq with hq; rw [← hq]; exact h.lp i hi), h.l7, h.l8, h.lp⟩
  · by_cases hji : j = i
    · subst hji; rw [upd_same]; exact hs
    · rw [upd_ne _ _ hji]
      refine (hg.block _ (Array.getElem?_eq_some_iff.1 (h.sh j hj)).1 (fun e => ?_)).trans (h.sh j hj)
      injection e with e
      have hne := h.ne
      rcases two_cases hi with rfl | rfl <;> rcases two_cases hj with rfl | rfl
      · exact hji rfl
      · exact hne e.symm
      · exact hne e
      · exact hji rfl
  · obtain ⟨_, C, hC⟩ := (h.qu j hj).lt b hb'
    exact hg.block b (Array.getElem?_eq_some_iff.1 hC).1 (fun e => ty_ne2 hC hp (by decide) (by injection e))
set_option maxRecDepth 100000 in
theorem upd_arr (v : Nat → Value) {i : Nat} (hi : i < 2) (x : Value) : (#[v 0, v 1] : Array Value).setIfInBounds i x = #[upd v i x 0, upd v i x 1] := by
  rcases two_cases hi with rfl | rfl <;> rfl
set_option maxRecDepth 100000 in
/-- the queue i turns: a world in which only its block has turned, then its slice is set -/
theorem MtAt.turn {W6 : World} {i : Nat} {x : Value} {l : List Msg} (h : MtAt w wr t7 t8 p e v Q) (hi : i < 2) (hg : wr.grownBy W6 (v i).ownBlock) (hq : QAt W6 w.heap.size x l) (hf : ∀ b, x.ownBlock = some b → (v i).ownBlock = some b ∨ wr.heap.size ≤ b) :
    MtAt w (W6.setCell ⟨t8, i, none⟩ x) t7 t8 p e (upd v i x) (upd Q i l) := by
  have hqi := h.qu i hi
  have hT : ∀ {a : Nat} {C : Array Value} {T : TypeId}, wr.heap[a]? = some (.cells C T (0, 0)) → T ≠ 34 → W6.heap[a]? = some (.cells C T (0, 0)) := fun ha hne =>
    (hg.block _ (Array.getElem?_eq_some_iff.1 ha).1 (fun e => by
      obtain ⟨_, C, hC⟩ := hqi.lt _ e.symm
      exact ty_ne2 ha hC hne rfl)).trans ha
  have h8 := hT h.b8 (by decide)
  have hS : ∀ {a : Nat} {o : Obj}, W6.heap[a]? = some o → a ≠ t8 → (W6.setCell ⟨t8, i, none⟩ x).heap[a]? = some o := fun ha hne => (heap_setCell_other W6 ⟨t8, i, none⟩ _ _ hne).trans ha
  have h7ne : t7 ≠ t8 := ty_ne2 h.b7 h.b8 (by decide)
  have hbw : Below w.heap.size w W6 := below_grown h.lo (Nat.le_refl _) hg (fun q hq => (hqi.lt q hq).1)
  refine ⟨hS (hT h.b7 (by decide)) h7ne, ?_, fun j hj => hS (hT (h.sh j hj) (by decide)) (ty_ne2 (h.sh j hj) h.b8 (by decide)), fun j hj => ?_, h.ne, ?_, hbw.setCell (p := ⟨t8, i, none⟩) h.l8 x, h.l7, h.l8, h.lp⟩
  · rw [blk_set h8 i x, upd_arr v hi]
  · have hkeep : ∀ {y : Value} {m : List Msg}, QAt W6 w.heap.size y m → QAt (W6.setCell ⟨t8, i, none⟩ x) w.heap.size y m := fun hy => hy.kept (fun b hb => by
      obtain ⟨_, C, hC⟩ := hy.lt b hb
      exact heap_setCell_other W6 ⟨t8, i, none⟩ b _ (ty_ne2 hC h8 (by decide)))
    by_cases hji : j = i
    · subst hji; rw [upd_same, upd_same]; exact hkeep hq
    · rw [upd_ne _ _ hji, upd_ne _ _ hji]
      refine hkeep ((h.qu j hj).kept (fun b hb => ?_))
      obtain ⟨_, C, hC⟩ := (h.qu j hj).lt b hb
      refine hg.block b (Array.getElem?_eq_some_iff.1 hC).1 (fun e => ?_)
      have hdj := h.dj
      rcases two_cases hi with rfl | rfl <;> rcases two_cases hj with rfl | rfl
      · exact hji rfl
      · exact hdj b e.symm hb
      · exact hdj b hb e.symm
      · exact hji rfl
  · intro b hb0 hb1
    have hold : ∀ j, j < 2 → (v j).ownBlock = some b → b < wr.heap.size := fun j hj hb => by
      obtain ⟨_, C, hC⟩ := (h.qu j hj).lt b hb
      exact (Array.getElem?_eq_some_iff.1 hC).1
    rcases two_cases hi with rfl | rfl
    · rw [upd_same] at hb0
      rw [upd_ne _ _ (by decide)] at hb1
      rcases hf b hb0 with h1 | h1
      · exact h.dj b h1 hb1
      · have := hold 1 (by decide) hb1; omega
    · rw [upd_same] at hb1
      rw [upd_ne _ _ (by decide)] at hb0
      rcases hf b hb1 with h1 | h1
      · exact h.dj b hb0 h1
      · have := hold 0 (by decide) hb0; omega
set_option maxRecDepth 100000 in
theorem MtAt.blt (h : MtAt w wr t7 t8 p e v Q) {j : Nat} (hj : j < 2) : ∀ b, (v j).ownBlock = some b → b < wr.heap.size := fun b hb => by
  obtain ⟨_, C, hC⟩ := (h.qu j hj).lt b hb
  exact (Array.getElem?_eq_some_iff.1 hC).1
set_option maxRecDepth 100000 in
theorem MtAt.cell6 {W6 : World} {i : Nat} (h : MtAt w wr t7 t8 p e v Q) (hi : i < 2) (hg : wr.grownBy W6 (v i).ownBlock) : W6.heap[t8]? = some (.cells #[v 0, v 1] 31 (0, 0)) ∧ W6.cell? ⟨t8, i, none⟩ = some (v i) ∧ W6.frozen? ⟨t8, i, none⟩ = false := by
  have h8 : W6.heap[t8]? = some (.cells #[v 0, v 1] 31 (0, 0)) := (hg.block _ (Array.getElem?_eq_some_iff.1 h.b8).1 (fun e => by
    obtain ⟨_, C, hC⟩ := (h.qu i hi).lt _ e.symm
    exact ty_ne2 h.b8 hC (by decide) rfl)).trans h.b8
  refine ⟨h8, ?_, frozen_of_row _ _ _ _ _ h8⟩
  rcases two_cases hi with rfl | rfl <;> exact (cell_of_block h8).trans rfl
set_option maxRecDepth 100000 in
/-- a datagram that is no queue's is set -/
theorem MtAt.row (h : MtAt w wr t7 t8 p e v Q) {g : Nat} {D C : Array Value} (hg : wr.heap[g]? = some (.cells D 34 (0, 0))) (hn : ∀ o, o < 2 → (v o).ownBlock ≠ some g) (hgw : w.heap.size ≤ g) : MtAt w (wr.setRow g C) t7 t8 p e v Q :=
  ⟨(setRow_other _ _ _ _ (ty_ne2 h.b7 hg (by decide))).trans h.b7, (setRow_other _ _ _ _ (ty_ne2 h.b8 hg (by decide))).trans h.b8, fun j hj => (setRow_other _ _ _ _ (ty_ne2 (h.sh j hj) hg (by decide))).trans (h.sh j hj),
   fun j hj => (h.qu j hj).kept (fun b hb => setRow_other _ _ _ _ (fun e => hn j hj (by rw [← e]; exact hb))), h.ne, h.dj, below_setRow h.lo hgw C, h.l7, h.l8, h.lp⟩
end
set_option maxRecDepth 100000 in
/-- how it begins -/
theorem mt_start (w X : World) (s0 s1 : ShS) (hB : Below w.heap.size w X) :
    MtAt w ((((X.alloc (.cells (shA s0) 45)).alloc (.cells (shA s1) 45)).alloc (.cells #[.pointer (some ⟨X.heap.size, 0, none⟩), .pointer (some ⟨X.heap.size + 1, 0, none⟩)] 29)).alloc (.cells #[.slice none 0 0, .slice none 0 0] 31))
      (X.heap.size + 1 + 1) (X.heap.size + 1 + 1 + 1) (fun j => X.heap.size + j) (fun j => if j = 0 then s0 else s1) (fun _ => .slice none 0 0) (fun _ => []) := by
  have s : ∀ (u : World) (o : Obj), (u.alloc o).heap.size = u.heap.size + 1 := fun u o => by show (u.heap.push _).size = _; rw [Array.size_push]
  have hsz := hB.size
  refine ⟨?_, ?_, fun j hj => ?_, fun j hj => QAt.nil _ _, by simp, fun b hb => (by cases hb), ?_, by omega, by omega, fun j hj => by show _ ≤ X.heap.size + j; omega⟩
  · exact blk_alloc (last_block0 _ _ _ (by rw [s, s])) _
  · exact last_block0 _ _ _ (by rw [s, s, s])
  · rcases two_cases hj with rfl | rfl
    · exact blk_alloc (blk_alloc (blk_alloc (last_block0 _ _ _ rfl) _) _) _
    · exact blk_alloc (blk_alloc (last_block0 _ _ _ (by rw [s])) _) _
  · exact (((hB.alloc hsz _).alloc (by rw [s]; omega) _).alloc (by rw [s, s]; omega) _).alloc (by rw [s, s, s]; omega) _
end Go.Proofs.Ytdpngimcmohmaaa

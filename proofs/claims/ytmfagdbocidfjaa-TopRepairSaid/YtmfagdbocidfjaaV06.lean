import Derived.Test.YtmfagdbocidfjaaV01
import Derived.Deep.QuietTactic
import Derived.Deep.RegionHeld3
/- Rules of the walk for whole rows: a struct or an array that lies at the head of a block is loaded and stored by one rule, whatever its cells are. Lemmas alone. -/
namespace Go.Proofs.Ytmfagdbocidfjaa
open Go.RowKit
/-- what lies at a block: a word of its own, which simp leaves alone -/
def blk (w : World) (b : Nat) : Option Obj := w.heap[b]?
def wLoad (ty : TypeId) (v : Value) : Sem Value := Instr.loadAt ty v
def wLoadRes (P : Program) (ty : TypeId) (b : Nat) (w : World) : Result Value := (wLoad ty (.pointer (some ⟨b, 0, none⟩))).run P w
def loadAns (n : Nat) (w : World) (o : Option Obj) (r : Result Value) : Result Value :=
  match o with
  | some (.cells C _ _) => if C.size = n then .ok (.agg C) w else r
  | _ => r
set_option maxRecDepth 100000 in
theorem loadAns_some {n : Nat} {w : World} {C : Array Value} {T : TypeId} {fr : Nat × Nat} {r : Result Value} (h : C.size = n) : loadAns n w (some (.cells C T fr)) r = .ok (.agg C) w := by
  simp [loadAns, h]
set_option maxRecDepth 100000 in
theorem wLoad_of (ty : TypeId) (v : Value) : Instr.loadAt ty v = wLoad ty v := rfl
set_option maxRecDepth 100000 in
theorem run_wLoad {P : Program} {ty : TypeId} {d : TypeDesc} {n : Nat} (hu : P.underlying ty = some d) (hd : (match d with | .struct _ | .array _ _ => true | _ => false) = true) (hi : (P.info? ty).map (·.size) = some n) (w : World) (b : Nat) :
    (wLoad ty (.pointer (some ⟨b, 0, none⟩))).run P w = loadAns n w (blk w b) (wLoadRes P ty b w) := by
  unfold loadAns wLoadRes blk
  split
  · rename_i C T fr hC
    split
    · rename_i hn
      unfold wLoad
      simp only [Instr.loadAt, Instr.sureAddr, Sem.run_bind, Sem.run_pure, Result.andThen_ok, run_loadVar_row w b T ty C fr d hC hu hd (by rw [hi, hn])]
    · rfl
  · rfl
/-- each of the cells is one value -/
def Plain (C : Array Value) : Prop := C.all (·.oneCell') = true
def wStore (ty : TypeId) (p x : Value) : Sem Unit := Instr.storeAt ty p x
def wStoreRes (P : Program) (ty : TypeId) (b : Nat) (C : Array Value) (w : World) : Result Unit := (wStore ty (.pointer (some ⟨b, 0, none⟩)) (.agg C)).run P w
def storeAns (n : Nat) (w : World) (b : Nat) (C : Array Value) (o : Option Obj) (r : Result Unit) : Result Unit :=
  match o with
  | some (.cells old _ (0, 0)) => if old.size = n ∧ C.size = n ∧ C.all (·.oneCell') = true then .ok () (w.setRow b C) else r
  | _ => r
set_option maxRecDepth 100000 in
theorem storeAns_some {n : Nat} {w : World} {b : Nat} {C old : Array Value} {T : TypeId} {r : Result Unit} (h1 : old.size = n) (h2 : C.size = n) (h3 : Plain C) : storeAns n w b C (some (.cells old T (0, 0))) r = .ok () (w.setRow b C) := by
  unfold storeAns
  exact if_pos ⟨h1, h2, h3⟩
set_option maxRecDepth 100000 in
theorem wStore_of (ty : TypeId) (p x : Value) : Instr.storeAt ty p x = wStore ty p x := rfl
set_option maxRecDepth 100000 in
theorem run_wStore {P : Program} {ty : TypeId} {n : Nat} (hi : (P.info? ty).map (·.size) = some n) (w : World) (b : Nat) (C : Array Value) :
    (wStore ty (.pointer (some ⟨b, 0, none⟩)) (.agg C)).run P w = storeAns n w b C (blk w b) (wStoreRes P ty b C w) := by
  unfold storeAns wStoreRes blk
  split
  · rename_i old T hC
    split
    · rename_i hn
      unfold wStore
      simp only [Instr.storeAt, Instr.sureAddr, Sem.run_bind, Sem.run_pure, Result.andThen_ok, run_storeVar_row w b T ty old C hC (by rw [hi, hn.2.1]) (by rw [hn.1, hn.2.1]) hn.2.2]
    · rfl
  · rfl
def rowPut (o : Option Obj) (C : Array Value) : Option Obj :=
  match o with
  | some (.cells _ T fr) => some (.cells C T fr)
  | x => x
set_option maxRecDepth 100000 in
theorem rowPut_some (old C : Array Value) (T : TypeId) (fr : Nat × Nat) : rowPut (some (.cells old T fr)) C = some (.cells C T fr) := rfl
set_option maxRecDepth 100000 in
theorem blk_setRow_if (w : World) (g k : Nat) (C : Array Value) : blk (w.setRow g C) k = if k = g then rowPut (blk w g) C else blk w k := by
  unfold blk
  by_cases h : k = g
  · subst h
    rw [if_pos rfl]
    cases hk : w.heap[k]? with
    | none =>
      have : ¬ k < w.heap.size := fun hlt => by rw [Array.getElem?_eq_getElem hlt] at hk; cases hk
      rw [Array.getElem?_eq_none (by rw [size_setRow]; omega)]; rfl
    | some o =>
      cases o with
      | cells old T fr => exact setRow_heap w k old C T fr hk
      | _ => simp [World.setRow, Array.getElem?_modify, hk, rowPut]
  · rw [if_neg h]; exact setRow_other w g k C h
set_option maxRecDepth 100000 in
theorem blk_alloc_if (w : World) (o : Obj) (k : Nat) : blk (w.alloc o) k = if k = w.heap.size then some o else blk w k := by
  show (w.heap.push o)[k]? = _
  rw [Array.getElem?_push]; rfl
set_option maxRecDepth 100000 in
theorem blk_setCell_ne (w : World) (g off k : Nat) (v : Value) (h : ¬ k = g) : blk (w.setCell ⟨g, off, none⟩ v) k = blk w k := heap_setCell_other w ⟨g, off, none⟩ k v h
def cellPut (o : Option Obj) (off : Nat) (v : Value) : Option Obj :=
  match o with
  | some (.cells C T fr) => some (.cells (C.setIfInBounds off v) T fr)
  | x => x
set_option maxRecDepth 100000 in
theorem cellPut_some (C : Array Value) (T : TypeId) (fr : Nat × Nat) (off : Nat) (v : Value) : cellPut (some (.cells C T fr)) off v = some (.cells (C.setIfInBounds off v) T fr) := rfl
set_option maxRecDepth 100000 in
theorem blk_setCell_if (w : World) (g off k : Nat) (v : Value) : blk (w.setCell ⟨g, off, none⟩ v) k = if k = g then cellPut (blk w g) off v else blk w k := by
  by_cases h : k = g
  · subst h
    rw [if_pos rfl]
    unfold blk World.setCell
    simp only [Array.getElem?_modify, if_true]
    cases hk : w.heap[k]? with
    | none => rfl
    | some o => cases o <;> rfl
  · rw [if_neg h]; exact heap_setCell_other w ⟨g, off, none⟩ k v h
set_option maxRecDepth 100000 in
theorem blk_drewN_at (w : World) (n k : Nat) : blk (w.drewN n) k = blk w k := rfl
set_option maxRecDepth 100000 in
theorem blk_drew_at (w : World) (k : Nat) : blk w.drew k = blk w k := rfl
set_option maxRecDepth 100000 in
theorem results_row2_tmp {P : Program} {fn : Func} {p q u : Tmp} {ty ty2 : TypeId} (h : fn.results = #[.cell p ty, .cell q ty2, .tmp u]) (tmps : Array Value) (w : World) (g : Nat) (t : TypeId) (cs : Array Value) (fr : Nat × Nat) (d : TypeDesc) (g2 : Nat) (t2 : TypeId) (cs2 : Array Value) (fr2 : Nat × Nat) (d2 : TypeDesc) (x : Value)
    (hp : tmps.getD p undef = .pointer (some ⟨g, 0, none⟩)) (hq : tmps.getD q undef = .pointer (some ⟨g2, 0, none⟩)) (hx : tmps.getD u undef = x) (hg : w.heap[g]? = some (.cells cs t fr)) (hg2 : w.heap[g2]? = some (.cells cs2 t2 fr2))
    (hu : P.underlying ty = some d) (hd : (match d with | .struct _ | .array _ _ => true | _ => false) = true) (hi : (P.info? ty).map (·.size) = some cs.size)
    (hu2 : P.underlying ty2 = some d2) (hd2 : (match d2 with | .struct _ | .array _ _ => true | _ => false) = true) (hi2 : (P.info? ty2).map (·.size) = some cs2.size) :
    (results fn tmps).run P w = .ok (.tuple #[.agg cs, .agg cs2, x]) w := by
  have hp' : tmps[p]?.getD undef = .pointer (some ⟨g, 0, none⟩) := by simpa using hp
  have hq' : tmps[q]?.getD undef = .pointer (some ⟨g2, 0, none⟩) := by simpa using hq
  have hx' : tmps[u]?.getD undef = x := by simpa using hx
  simp [results, h, hp', hq', hx', asAddr, Sem.run_bind, run_loadVar_row w g t ty cs fr d hg hu hd hi, run_loadVar_row w g2 t2 ty2 cs2 fr2 d2 hg2 hu2 hd2 hi2]
set_option maxRecDepth 100000 in
theorem results_tmp_row_tmp {P : Program} {fn : Func} {p u v : Tmp} {ty : TypeId} (h : fn.results = #[.tmp u, .cell p ty, .tmp v]) (tmps : Array Value) (w : World) (g : Nat) (t : TypeId) (cs : Array Value) (fr : Nat × Nat) (d : TypeDesc) (x y : Value)
    (hp : tmps.getD p undef = .pointer (some ⟨g, 0, none⟩)) (hx : tmps.getD u undef = x) (hy : tmps.getD v undef = y) (hg : w.heap[g]? = some (.cells cs t fr))
    (hu : P.underlying ty = some d) (hd : (match d with | .struct _ | .array _ _ => true | _ => false) = true) (hi : (P.info? ty).map (·.size) = some cs.size) :
    (results fn tmps).run P w = .ok (.tuple #[x, .agg cs, y]) w := by
  have hp' : tmps[p]?.getD undef = .pointer (some ⟨g, 0, none⟩) := by simpa using hp
  have hx' : tmps[u]?.getD undef = x := by simpa using hx
  have hy' : tmps[v]?.getD undef = y := by simpa using hy
  simp [results, h, hp', hx', hy', asAddr, Sem.run_bind, run_loadVar_row w g t ty cs fr d hg hu hd hi]
set_option maxRecDepth 100000 in
theorem size_lt_alloc (w : World) (o : Obj) : w.heap.size < (w.drew.alloc o).heap.size := by show _ < (w.heap.push _).size; rw [Array.size_push]; omega
set_option maxRecDepth 100000 in
theorem size_le_drew (w : World) {n : Nat} (h : w.drew.heap.size ≤ n) : w.heap.size ≤ n := h
set_option maxRecDepth 100000 in
theorem size_le_alloc (w : World) (o : Obj) {n : Nat} (h : (w.drew.alloc o).heap.size ≤ n) : w.heap.size ≤ n := Nat.le_of_lt (Nat.lt_of_lt_of_le (size_lt_alloc w o) h)
set_option maxRecDepth 100000 in
theorem only_cell {a w : World} {g : Nat} (h : a.grownBy w (some g)) {b : Nat} (off : Nat) (hb : b < a.heap.size) (hne : b ≠ g) : w.cell? ⟨b, off, none⟩ = a.cell? ⟨b, off, none⟩ :=
  World.cell?_of_block (h.block b hb (fun e => hne (by injection e)))
set_option maxRecDepth 100000 in
theorem only_blk {a w : World} {g : Nat} (h : a.grownBy w (some g)) {b : Nat} (hb : b < a.heap.size) (hne : b ≠ g) : w.heap[b]? = a.heap[b]? := h.block b hb (fun e => hne (by injection e))
set_option maxRecDepth 100000 in
theorem blk_of {w : World} {b : Nat} {o : Option Obj} (h : w.heap[b]? = o) : blk w b = o := h
set_option maxRecDepth 100000 in
theorem blk_lt {w : World} {b : Nat} {o : Obj} (h : blk w b = some o) : b < w.heap.size := (Array.getElem?_eq_some_iff.1 (show w.heap[b]? = some o from h)).1
set_option maxRecDepth 100000 in
theorem blk_heap {w : World} {b : Nat} {o : Option Obj} (h : blk w b = o) : w.heap[b]? = o := h
set_option maxRecDepth 100000 in
theorem blk_below {B : Nat} {w w' : World} (hb : Below B w w') {b : Nat} (h : b < B) : blk w' b = blk w b := hb.block b h
end Go.Proofs.Ytmfagdbocidfjaa

/- A region that draws its order and only reads, with calls that make memory: one walk in the order of the text, under a class of worlds C that such calls do not leave. Lemmas alone. -/
namespace Go.Proofs.Ytmfagdbocidfjaa
open Go.RowKit
section
variable {P : Program} {ops : Array Oper} {C : World → Prop} {Q : Act → Prop} {o : Oper} {rest : List Oper} {a : Act} {v : Value}
set_option maxRecDepth 100000 in
theorem q_run (hw : Region.wanted o (yielded ops a.tmps) = true) (hv : ∀ w, C w → (execOp a.eval o).run P w = .ok (.value v) w) (h : wpQuiet P ops C Q rest (a.put o.dst v)) : wpQuiet P ops C Q (o :: rest) a := by
  unfold wpQuiet
  rw [if_pos hw]
  refine ⟨v, fun w hC => ?_, h⟩
  unfold Oper.quietAt
  rw [hv w hC]
  exact ⟨rfl, rfl⟩
set_option maxRecDepth 100000 in
theorem q_skip (hw : Region.wanted o (yielded ops a.tmps) = false) (h : wpQuiet P ops C Q rest (a.put o.dst undef)) : wpQuiet P ops C Q (o :: rest) a := by
  unfold wpQuiet
  rw [hw]
  exact h
/-- what comes back, in a world in which nothing older has turned -/
def Ret (W : World) (v : Value) (e : Ending) (W' : World) : Prop := e = .returned v ∧ Below W.heap.size W W'
set_option maxRecDepth 100000 in
theorem q_call {f : FuncId} {args : Array Value} (hc : ∀ w, C w → Calls P f args w (Ret w v)) (hcl : ∀ w w', C w → Below w.heap.size w w' → C w')
    (hw : Region.wanted o (yielded ops a.tmps) = true) (he : ∀ w, C w → (execOp a.eval o).run P w = .ok (.enter f args) w) (h : wpQuiet P ops C Q rest (a.put o.dst v)) : wpQuiet P ops C Q (o :: rest) a := by
  unfold wpQuiet
  rw [if_pos hw]
  refine ⟨v, fun w hC => ?_, h⟩
  unfold Oper.quietAt
  rw [he w hC]
  exact ⟨rfl, (hc w hC).mono fun e w' ⟨h1, h2⟩ => ⟨h1, hcl w w' hC h2⟩⟩
end
set_option maxRecDepth 100000 in
theorem below_step {B : Nat} {a w w' : World} (h : Below B a w) (hB : B ≤ w.heap.size) (hb : Below w.heap.size w w') : Below B a w' := h.trans (hb.mono hB)
/-! ### a region that draws its order, and writes by one call or one store: what reads is taken first, under a condition S on the world that may be changed behind the call -/
/-- the operation of this number: a word that unfolds to the operation itself -/
def opAt : List Oper → Nat → Option Oper
  | [], _ => none
  | o :: _, 0 => some o
  | _ :: l, n + 1 => opAt l n
set_option maxRecDepth 100000 in
theorem opAt_eq : ∀ (l : List Oper) (i : Nat), opAt l i = l[i]?
  | [], i => by simp [opAt]
  | o :: l, 0 => rfl
  | o :: l, n + 1 => by rw [opAt, opAt_eq l n]; rfl
set_option maxRecDepth 100000 in
theorem opAt_of {ops : Array Oper} {i : Nat} {oi : Oper} (h : opAt ops.toList i = some oi) : ops[i]? = some oi := by
  rw [opAt_eq, Array.getElem?_toList] at h; exact h
section
variable {P : Program} {ops : Array Oper} {Q : Exit → Act → World → Prop} {S S' : World → Prop}
set_option maxRecDepth 100000 in
theorem wpAnyH_mono (hsub : ∀ w, S' w → S w) : ∀ (fuel : Nat) (listed : Array Bool) (a : Act) (w : World), wpAnyH P .any ops Q S' fuel listed a w → wpAnyH P .any ops Q S fuel listed a w
  | 0, _, _, _, h => h
  | fuel + 1, _, _, _, h => ⟨h.1, fun i hi => wpOp_mono (fun a' w' ⟨h1, h2⟩ => ⟨hsub w' h1, wpAnyH_mono hsub fuel _ a' w' h2⟩) (h.2 i hi)⟩
set_option maxRecDepth 100000 in
theorem h_begin {id : Nat} {a : Act} {w : World} (n : Nat) (S : World → Prop) (hn : ops.size = n) (hm : P.follows .mixedOrders = true) (hS : S w.drew)
    (h : wpAnyH P .any ops (NoPanic Q) S n (Array.replicate n false) a w.drew) : (Code.region id ops true).wp P Q a w :=
  wp_region_noPanic (wp_region_held_drew hm hS (fun _ => by rw [hn]; exact h))
set_option maxRecDepth 100000 in
theorem h_run {i : Nat} {oi : Oper} {v : Value} {fuel : Nat} {listed : Array Bool} {a : Act} {w : World} (hS : S w) (hi0 : opAt ops.toList i = some oi)
    (hs : Region.noSelect ops = true) (hf : Region.free .any ops listed i = true) (hr : (Region.ready .any ops listed).contains i = true)
    (hw : Region.wanted oi (yielded ops a.tmps) = true) (hv : ∀ w, S w → (execOp a.eval oi).run P w = .ok (.value v) w)
    (h : wpAnyH P .any ops (NoPanic Q) S fuel (listed.setIfInBounds i true) (a.put oi.dst v) w) : wpAnyH P .any ops (NoPanic Q) S (fuel + 1) listed a w :=
  wpAnyH_take (opAt_of hi0) hs hf hr (fun _ _ _ h => h) (.inl ⟨hw, hv⟩) hS h
set_option maxRecDepth 100000 in
theorem h_skip {i : Nat} {oi : Oper} {fuel : Nat} {listed : Array Bool} {a : Act} {w : World} (hS : S w) (hi0 : opAt ops.toList i = some oi)
    (hs : Region.noSelect ops = true) (hf : Region.free .any ops listed i = true) (hr : (Region.ready .any ops listed).contains i = true)
    (hw : Region.wanted oi (yielded ops a.tmps) = false)
    (h : wpAnyH P .any ops (NoPanic Q) S fuel (listed.setIfInBounds i true) (a.put oi.dst undef) w) : wpAnyH P .any ops (NoPanic Q) S (fuel + 1) listed a w :=
  wpAnyH_take (opAt_of hi0) hs hf hr (fun _ _ _ h => h) (.inr ⟨hw, rfl⟩) hS h
set_option maxRecDepth 100000 in
/-- the one that may come up is a call -/
theorem h_call {i : Nat} {oi : Oper} {f : FuncId} {args : Array Value} {R : Ending → World → Prop} {fuel : Nat} {listed : Array Bool} {a : Act} {w : World} (S' : World → Prop) (hsub : ∀ w, S' w → S w)
    (hc : Calls P f args w R) (hi0 : opAt ops.toList i = some oi) (hr : Region.ready .any ops listed = [i]) (hw : Region.wanted oi (yielded ops a.tmps) = true)
    (he : (execOp a.eval oi).run P w = .ok (.enter f args) w)
    (h : ∀ e w', R e w' → ∃ v, e = .returned v ∧ S' w' ∧ wpAnyH P .any ops (NoPanic Q) S' fuel (listed.setIfInBounds i true) (a.put oi.dst v) w') : wpAnyH P .any ops (NoPanic Q) S (fuel + 1) listed a w := by
  refine wpAnyH_all hr (by simp) (fun j hj => ?_)
  obtain rfl : j = i := by simpa using hj
  refine wpOp_step (opAt_of hi0) (fun K' hK => ?_)
  rw [if_pos hw]
  unfold Oper.wp
  rw [he]
  exact hc.mono fun e w' hR => by
    obtain ⟨v, rfl, hS', hx⟩ := h e w' hR
    exact hK _ _ ⟨hsub w' hS', wpAnyH_mono hsub _ _ _ _ hx⟩
set_option maxRecDepth 100000 in
/-- the one that may come up is carried out in this world -/
theorem h_value {i : Nat} {oi : Oper} {v : Value} {fuel : Nat} {listed : Array Bool} {a : Act} {w w' : World} (S' : World → Prop) (hsub : ∀ w, S' w → S w)
    (hi0 : opAt ops.toList i = some oi) (hr : Region.ready .any ops listed = [i]) (hw : Region.wanted oi (yielded ops a.tmps) = true)
    (he : (execOp a.eval oi).run P w = .ok (.value v) w') (hS' : S' w')
    (h : wpAnyH P .any ops (NoPanic Q) S' fuel (listed.setIfInBounds i true) (a.put oi.dst v) w') : wpAnyH P .any ops (NoPanic Q) S (fuel + 1) listed a w := by
  refine wpAnyH_all hr (by simp) (fun j hj => ?_)
  obtain rfl : j = i := by simpa using hj
  refine wpOp_step (opAt_of hi0) (fun K' hK => ?_)
  rw [if_pos hw]
  unfold Oper.wp
  rw [he]
  exact hK _ _ ⟨hsub w' hS', wpAnyH_mono hsub _ _ _ _ h⟩
set_option maxRecDepth 100000 in
theorem h_write {i : Nat} {oi : Oper} {fuel : Nat} {listed : Array Bool} {a : Act} {w w' : World} (S' : World → Prop) (hsub : ∀ w, S' w → S w)
    (hi0 : opAt ops.toList i = some oi) (hr : Region.ready .any ops listed = [i]) (hw : Region.wanted oi (yielded ops a.tmps) = true)
    (he : (execOp a.eval oi).run P w = .ok .skip w') (hS' : S' w')
    (h : wpAnyH P .any ops (NoPanic Q) S' fuel (listed.setIfInBounds i true) (a.put oi.dst undef) w') : wpAnyH P .any ops (NoPanic Q) S (fuel + 1) listed a w := by
  refine wpAnyH_all hr (by simp) (fun j hj => ?_)
  obtain rfl : j = i := by simpa using hj
  refine wpOp_step (opAt_of hi0) (fun K' hK => ?_)
  rw [if_pos hw]
  unfold Oper.wp
  rw [he]
  exact hK _ _ ⟨hsub w' hS', wpAnyH_mono hsub _ _ _ _ h⟩
set_option maxRecDepth 100000 in
theorem h_done {fuel : Nat} {listed : Array Bool} {a : Act} {w : World} (hr : Region.ready .any ops listed = []) (h : Q .normal a w) : wpAnyH P .any ops (NoPanic Q) S fuel listed a w :=
  wpAnyH_done hr (NoPanic.normal h) fuel
end
end Go.Proofs.Ytmfagdbocidfjaa

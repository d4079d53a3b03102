/- A region that draws its order and only reads, with calls that make memory: one walk in the order of the text, under a class of worlds C that such calls do not leave. Lemmas alone. -/
import Derived.Test.YtdpngimcmohmaaaWhole
import Derived.Deep.QuietTactic
import Derived.Deep.RegionHeld3
namespace Go.Proofs.Ytdpngimcmohmaaa
open Go.RowKit
section
variable {P : Program} {ops : Array Oper} {C : World → Prop} {Q : Act → Prop} {o : Oper} {rest : List Oper} {a : Act} {v : Value}
set_option maxRecDepth 100000 in
theorem q_run (hw : Region.wanted o (yielded ops a.tmps) = true) (hv : ∀ w, C w → (execOp a.eval o).run P w = .ok (.value v) w) (h : wpQuiet P ops C Q rest (a.put o.dst v)) : wpQuiet P ops C Q (o :: rest) a := by
  unfold wpQuiet
  rw [if_pos hw]
  refine ⟨v, fun w hC => ?_, h⟩
  unfold Oper.quietAt
  rw [hv w hC]
  exact ⟨rfl, rfl⟩
set_option maxRecDepth 100000 in
theorem q_skip (hw : Region.wanted o (yielded ops a.tmps) = false) (h : wpQuiet P ops C Q rest (a.put o.dst undef)) : wpQuiet P ops C Q (o :: rest) a := by
  unfold wpQuiet
  rw [hw]
  exact h
/-- what comes back, in a world in which nothing older has turned -/
def Ret (W : World) (v : Value) (e : Ending) (W' : World) : Prop := e = .returned v ∧ Below W.heap.size W W'
set_option maxRecDepth 100000 in
theorem q_call {f : FuncId} {args : Array Value} (hc : ∀ w, C w → Calls P f args w (Ret w v)) (hcl : ∀ w w', C w → Below w.heap.size w w' → C w')
    (hw : Region.wanted o (yielded ops a.tmps) = true) (he : ∀ w, C w → (execOp a.eval o).run P w = .ok (.enter f args) w) (h : wpQuiet P ops C Q rest (a.put o.dst v)) : wpQuiet P ops C Q (o :: rest) a := by
  unfold wpQuiet
  rw [if_pos hw]
  refine ⟨v, fun w hC => ?_, h⟩
  unfold Oper.quietAt
  rw [he w hC]
  exact ⟨rfl, (hc w hC).mono fun e w' ⟨h1, h2⟩ => ⟨h1, hcl w w' hC h2⟩⟩
end
set_option maxRecDepth 100000 in
theorem below_step {B : Nat} {a w w' : World} (h : Below B a w) (hB : B ≤ w.heap.size) (hb : Below w.heap.size w w') : Below B a w' := h.trans (hb.mono hB)
/-! ### a region that draws its order, and writes by one call or one store: what reads is taken first, under a condition S on the world that may be changed behind the call -/
/-- the operation of this number: a word that unfolds to the operation itself -/
def opAt : List Oper → Nat → Option Oper
  | [], _ => none
  | o :: _, 0 => some o
  | _ :: l, n + 1 => opAt l n
set_option maxRecDepth 100000 in
theorem opAt_eq : ∀ (l : List Oper) (i : Nat), opAt l i = l[i]?
  | [], i => by simp [opAt]
  | o :: l, 0 => rfl
  | o :: l, n + 1 => by rw [opAt, opAt_eq l n]; rfl
set_option maxRecDepth 100000 in
theorem opAt_of {ops : Array Oper} {i : Nat} {oi : Oper} (h : opAt ops.toList i = some oi) : ops[i]? = some oi := by
  rw [opAt_eq, Array.getElem?_toList] at h; exact h
section
variable {P : Program} {ops : Array Oper} {Q : Exit → Act → World → Prop} {S S' : World → Prop}
set_option maxRecDepth 100000 in
theorem wpAnyH_mono (hsub : ∀ w, S' w → S w) : ∀ (fuel : Nat) (listed : Array Bool) (a : Act) (w : World), wpAnyH P .any ops Q S' fuel listed a w → wpAnyH P .any ops Q S fuel listed a w
  | 0, _, _, _, h => h
  | fuel + 1, listed, a, w, h => ⟨h.1, fun i hi => wpOp_mono (fun a' w' ⟨h1, h2⟩ => ⟨hsub w' h1, wpAnyH_mono hsub fuel _ a' w' h2⟩) (h.2 i hi)⟩
set_option maxRecDepth 100000 in
theorem h_begin {id : Nat} {a : Act} {w : World} (n : Nat) (S : World → Prop) (hn : ops.size = n) (hm : P.follows .mixedOrders = true) (hS : S w.drew)
    (h : wpAnyH P .any ops (NoPanic Q) S n (Array.replicate n false) a w.drew) : (Code.region id ops true).wp P Q a w :=
  wp_region_noPanic (wp_region_held_drew hm hS (fun _ => by rw [hn]; exact h))
set_option maxRecDepth 100000 in
theorem h_run {i : Nat} {oi : Oper} {v : Value} {fuel : Nat} {listed : Array Bool} {a : Act} {w : World} (hS : S w) (hi0 : opAt ops.toList i = some oi)
    (hs : Region.noSelect ops = true) (hf : Region.free .any ops listed i = true) (hr : (Region.ready .any ops listed).contains i = true)
    (hw : Region.wanted oi (yielded ops a.tmps) = true) (hv : ∀ w, S w → (execOp a.eval oi).run P w = .ok (.value v) w)
    (h : wpAnyH P .any ops (NoPanic Q) S fuel (listed.setIfInBounds i true) (a.put oi.dst v) w) : wpAnyH P .any ops (NoPanic Q) S (fuel + 1) listed a w :=
  wpAnyH_take (opAt_of hi0) hs hf hr (fun _ _ _ h => h) (.inl ⟨hw, hv⟩) hS h
set_option maxRecDepth 100000 in
theorem h_skip {i : Nat} {oi : Oper} {fuel : Nat} {listed : Array Bool} {a : Act} {w : World} (hS : S w) (hi0 : opAt ops.toList i = some oi)
    (hs : Region.noSelect ops = true) (hf : Region.free .any ops listed i = true) (hr : (Region.ready .any ops listed).contains i = true)
    (hw : Region.wanted oi (yielded ops a.tmps) = false)
    (h : wpAnyH P .any ops (NoPanic Q) S fuel (listed.setIfInBounds i true) (a.put oi.dst undef) w) : wpAnyH P .any ops (NoPanic Q) S (fuel + 1) listed a w :=
  wpAnyH_take (opAt_of hi0) hs hf hr (fun _ _ _ h => h) (.inr ⟨hw, rfl⟩) hS h
set_option maxRecDepth 100000 in
/-- the one that may come up is a call -/
theorem h_call {i : Nat} {oi : Oper} {f : FuncId} {args : Array Value} {R : Ending → World → Prop} {fuel : Nat} {listed : Array Bool} {a : Act} {w : World} (S' : World → Prop) (hsub : ∀ w, S' w → S w)
    (hc : Calls P f args w R) (hi0 : opAt ops.toList i = some oi) (hr : Region.ready .any ops listed = [i]) (hw : Region.wanted oi (yielded ops a.tmps) = true)
    (he : (execOp a.eval oi).run P w = .ok (.enter f args) w)
    (h : ∀ e w', R e w' → ∃ v, e = .returned v ∧ S' w' ∧ wpAnyH P .any ops (NoPanic Q) S' fuel (listed.setIfInBounds i true) (a.put oi.dst v) w') : wpAnyH P .any ops (NoPanic Q) S (fuel + 1) listed a w := by
  refine wpAnyH_all hr (by simp) (fun j hj => ?_)
  obtain rfl : j = i := by simpa using hj
  refine wpOp_step (opAt_of hi0) (fun K' hK => ?_)
  rw [if_pos hw]
  unfold Oper.wp
  rw [he]
  exact hc.mono fun e w' hR => by
    obtain ⟨v, rfl, hS', hx⟩ := h e w' hR
    exact hK _ _ ⟨hsub w' hS', wpAnyH_mono hsub _ _ _ _ hx⟩
set_option maxRecDepth 100000 in
/-- the one that may come up is carried out in this world -/
theorem h_value {i : Nat} {oi : Oper} {v : Value} {fuel : Nat} {listed : Array Bool} {a : Act} {w w' : World} (S' : World → Prop) (hsub : ∀ w, S' w → S w)
    (hi0 : opAt ops.toList i = some oi) (hr : Region.ready .any ops listed = [i]) (hw : Region.wanted oi (yielded ops a.tmps) = true)
    (he : (execOp a.eval oi).run P w = .ok (.value v) w') (hS' : S' w')
    (h : wpAnyH P .any ops (NoPanic Q) S' fuel (listed.setIfInBounds i true) (a.put oi.dst v) w') : wpAnyH P .any ops (NoPanic Q) S (fuel + 1) listed a w := by
  refine wpAnyH_all hr (by simp) (fun j hj => ?_)
  obtain rfl : j = i := by simpa using hj
  refine wpOp_step (opAt_of hi0) (fun K' hK => ?_)
  rw [if_pos hw]
  unfold Oper.wp
  rw [he]
  exact hK _ _ ⟨hsub w' hS', wpAnyH_mono hsub _ _ _ _ h⟩
set_option maxRecDepth 100000 in
theorem h_write {i : Nat} {oi : Oper} {fuel : Nat} {listed : Array Bool} {a : Act} {w w' : World} (S' : World → Prop) (hsub : ∀ w, S' w → S w)
    (hi0 : opAt ops.toList i = some oi) (hr : Region.ready .any ops listed = [i]) (hw : Region.wanted oi (yielded ops a.tmps) = true)
    (he : (execOp a.eval oi).run P w = .ok .skip w') (hS' : S' w')
    (h : wpAnyH P .any ops (NoPanic Q) S' fuel (listed.setIfInBounds i true) (a.put oi.dst undef) w') : wpAnyH P .any ops (NoPanic Q) S (fuel + 1) listed a w := by
  refine wpAnyH_all hr (by simp) (fun j hj => ?_)
  obtain rfl : j = i := by simpa using hj
  refine wpOp_step (opAt_of hi0) (fun K' hK => ?_)
  rw [if_pos hw]
  unfold Oper.wp
  rw [he]
  exact hK _ _ ⟨hsub w' hS', wpAnyH_mono hsub _ _ _ _ h⟩
set_option maxRecDepth 100000 in
theorem h_done {fuel : Nat} {listed : Array Bool} {a : Act} {w : World} (hr : Region.ready .any ops listed = []) (h : Q .normal a w) : wpAnyH P .any ops (NoPanic Q) S fuel listed a w :=
  wpAnyH_done hr (NoPanic.normal h) fuel
end
end Go.Proofs.Ytdpngimcmohmaaa

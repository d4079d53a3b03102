import Derived.Test.YtipfoclmdbbjiaaU04
import Derived.RangeFuncNested
import Derived.RangeFuncBound
import Derived.RangeFuncCalls
import Derived.RangeFuncLeaves
import Derived.RangeFuncBox
import Derived.Shelf.Abstract
import Derived.Shelf.RegionOpen
import Derived.WalkKit
import Derived.OwnWalkIn
import Derived.TacticsInMore
import Derived.LoopNIn
import Derived.LoopIn
import Derived.Maps.AppendAt
import Derived.OrdersIn
/- A range over a function whose iterator lays memory ahead of each round: the body is told what lies there. And a region that draws its order, in a round, by the plain theory. Lemmas alone. -/
namespace Go.Proofs.Ytipfoclmdbbjiaa
open Go.RowKit Go.Shelf
section
variable {P : Program} {ops : Array Oper}
/-- no operation is a defer statement -/
def noDefer (ops : Array Oper) : Bool := ops.toList.all fun o => match o.op with | .defer _ => false | _ => true
set_option maxRecDepth 100000 in
theorem noDefer_at {i : Nat} {o : Oper} (h : noDefer ops = true) (hi : ops[i]? = some o) : ∀ c, o.op ≠ .defer c := by
  intro c hc
  unfold noDefer at h
  have h1 := List.all_eq_true.1 h o (by rw [← Array.getElem?_toList] at hi; exact List.mem_of_getElem? hi)
  simp [hc] at h1
set_option maxRecDepth 100000 in
theorem rnd_op {R : Act → World → Prop} {Q : Exit → Act → World → Prop} {o : Oper} {l n : Nat} {a : Act} {w : World} {K K' : Act → World → Prop} (hn : ∀ c, o.op ≠ .defer c)
    (hK : ∀ a w, K a w → K' a w) (h : o.wp P a w K (fun e a w => e = .normal ∧ R a w)) : o.wpIn (Fence.wide.inRound l) n P a w K' Q := by
  unfold Oper.wp at h
  refine ⟨fun _ _ => trivial, ?_⟩
  rw [Fence.inRound_round, Oper.semAt_some l _ _ hn]
  generalize (execOp a.eval o).run P w = r at *
  cases r with
  | ok x w' =>
    cases x <;> simp only [Oper.upon] at h <;> simp only [Oper.uponIn]
    case value => exact hK _ _ h
    case skip => exact hK _ _ h
    case defer => exact hK _ _ h
    case enter =>
      refine ⟨fun h => (by cases h), CallsIn.inRound l (callsIn_wide.2 (h.mono ?_))⟩
      intro e w'' he
      cases e with
      | returned v => exact hK _ _ he
      | panicked c => cases he.1
      | outgrown => obtain ⟨_, _, h, _⟩ := he; cases h
    case row =>
      exact ⟨fun h => (by cases h), fun c cs _ => let ⟨v, w', r, s⟩ := h c cs; ⟨v, w', hK _ _ r, stepsIn_wide.2 s⟩⟩
  | halt x w' => cases x <;> simp only [Oper.upon] at h <;> first | cases h.1 | exact h.elim
set_option maxRecDepth 100000 in
theorem rnd_any {R : Act → World → Prop} {Q : Exit → Act → World → Prop} {l n : Nat} (hnd : noDefer ops = true) (hR : ∀ a w, R a w → Q .normal a w) : ∀ (fuel : Nat) (listed : Array Bool) (a : Act) (w : World),
    wpAny P .any ops (fun e a w => e = .normal ∧ R a w) fuel listed a w → wpAnyIn (Fence.wide.inRound l) n P .any ops Q fuel listed a w
  | 0, _, _, _, h => ⟨h.1, hR _ _ h.2.2⟩
  | fuel + 1, listed, a, w, h => ⟨fun hr => hR _ _ (h.1 hr).2, fun i hi => by
      have h1 := h.2 i hi
      unfold wpOp at h1
      unfold wpOpIn
      split
      · rename_i ho
        simp only [ho] at h1
        exact rnd_any hnd hR fuel _ _ _ h1
      · rename_i o ho
        simp only [ho] at h1
        split
        · rename_i hw
          simp only [hw, if_true] at h1
          rcases h1 with h1 | ⟨_, _, _, h1, _⟩
          · exact rnd_op (noDefer_at hnd ho) (fun a' w' => rnd_any hnd hR fuel _ a' w') h1
          · cases h1
        · rename_i hw
          simp only [hw] at h1
          exact ⟨fun _ _ => trivial, rnd_any hnd hR fuel _ _ _ h1⟩⟩
set_option maxRecDepth 100000 in
/-- a region that draws its order, in a round: one walk in the order of the text, under a class of worlds -/
theorem rnd_quiet {C : World → Prop} {Q : Exit → Act → World → Prop} {id l n : Nat} {a : Act} {w : World} (hm : P.follows .mixedOrders = true) (hB : Region.lexB .any ops = true) (hnd : noDefer ops = true)
    (hC : C w.drew) (h : wpQuiet P ops C (fun a' => ∀ w', C w' → Q .normal a' w') ops.toList a) : (Code.region id ops true).wpIn (Fence.wide.inRound l) n P Q a w := by
  simp only [Region.lexB, Bool.and_eq_true] at hB
  refine wpIn_region_any hm (rnd_any (R := fun a w => Q .normal a w) hnd (fun _ _ h => h) _ _ _ _ (wpAny_of_quiet (C := C) (Q := fun a' => ∀ w', C w' → Q .normal a' w') (fun _ w' hw' h => ⟨rfl, h w' hw'⟩) _ _ _ _ hC ?_))
  have := wpAnyQ_lex (C := C) (md := .any) hB.1 ops.toList 0 (Array.replicate ops.size false) a (by simp) (by simpa using hB.2) h
  simpa using this
end
set_option maxRecDepth 100000 in
set_option maxHeartbeats 1000000 in
/-- the loop: the body is told what the iterator has laid (X); it never leaves by a jump -/
theorem range_x {α : Type} {P : Program} {g : Operand} {ps : Array Tmp} {assign body : Code} {Q : Exit → Act → World → Prop} {a : Act} {w : World} {n gf N n₀ : Nat} {lb : Array Value} {encs : Nat → α → Array Value} {X : Nat → α → World → Prop}
    (hg : a.eval g = .func (.func gf) #[] lb) (eg : ∀ args w, (callFunc gf args).run P w = .ok (.enter gf args) w) (hn₀ : n₀ ≤ w.heap.size)
    (hseq : ∀ (l : Nat) (J : Nat → World → Prop) (W : World), Below w.heap.size w W → w.heap.size + 2 ≤ W.heap.size → (∀ k W W', J k W → Below W.heap.size W W' → J k W') →
      (∀ (k : Nat) (x : α) W1, J k W1 → k < N → X k x W1 → YieldAt Fence.wide (n - 1 - 1) P l (encs k x) W1 fun e W' => e = .returned (.bool true) ∧ J (k + 1) W' ∧ Below n₀ W1 W') → J 0 W →
      CallsIn Fence.wide (n - 1) P gf (#[.func (.yield l) #[] #[]] ++ lb) W fun e W' => (∃ v, e = .returned v) ∧ J N W')
    (hps : ∀ k x, (encs k x).size = ps.size)
    (I : Nat → World → Prop) (hI : ∀ k W W', I k W → Below W.heap.size W W' → I k W') (hIp : ∀ k W j o, I k W → w.heap.size ≤ j → j < w.heap.size + 2 → I k (W.putObj j o)) (h0 : I 0 w)
    (hround : ∀ (l k : Nat) (x : α) (W : World) (K : Act → World → Prop), w.heap.size + 2 ≤ W.heap.size → I k W → X k x W → k < N →
      (∀ a' W', Below W.heap.size W W' → (∀ V : World, Below n₀ W' V → V.heap.size = W'.heap.size → (∀ b, b ≠ w.heap.size + 1 → V.heap[b]? = W'.heap[b]?) →
        body.wpIn (Fence.wide.inRound l) (n - 1 - 1) P (fun e _ W2 => e = .normal ∧ Below n₀ V W2 ∧ (∀ j, w.heap.size ≤ j → j < w.heap.size + 2 → W2.heap[j]? = V.heap[j]?) ∧ I (k + 1) W2) a' V) → K a' W') →
      assign.wpIn (Fence.wide.inRound l) (n - 1 - 1) P (Exit.then K (fun _ _ _ => False)) { tmps := (ps.zip (encs k x)).foldl (fun t (p, v) => t.setIfInBounds p v) a.tmps, defers := [] } W)
    (hdone : ∀ W, I N W → W.heap[w.heap.size]? = some (.deferred (some [])) → w.heap.size + 2 ≤ W.heap.size → Q .normal { a with defers := { target := .collected w.heap.size, args := #[] } :: a.defers } W) :
    (Code.rangeFunc g ps assign body).wpIn Fence.wide n P Q a w := by
  refine wpIn_rangeFunc (fun fn _ => ?_)
  obtain ⟨rc, hrc⟩ : ∃ rc : LoopState → Loop, rc = fun st => { state := st, pending := none, fn, tmps := a.tmps, params := ps, assign, body, defers := w.heap.size } := ⟨_, rfl⟩
  have hst : ∀ st, (rc st).state = st ∧ (rc st).pending = none ∧ (rc st).fn = fn ∧ (rc st).tmps = a.tmps ∧ (rc st).params = ps ∧ (rc st).assign = assign ∧ (rc st).body = body := by rw [hrc]; intro st; exact ⟨rfl, rfl, rfl, rfl, rfl, rfl, rfl⟩
  have hwith : ∀ st st' : LoopState, ({ rc st with state := st' } : Loop) = rc st' := by rw [hrc]; intro _ _; rfl
  have hwith2 : ∀ st st' : LoopState, ({ rc st with state := st', pending := none } : Loop) = rc st' := by rw [hrc]; intro _ _; rfl
  have hsz : ((w.alloc (.deferred (some []))).alloc (.loop (rc .ready))).heap.size = w.heap.size + 2 := by simp
  have hL0 : ((w.alloc (.deferred (some []))).alloc (.loop (rc .ready))).heap[w.heap.size + 1]? = some (.loop (rc .ready)) := by
    have := World.alloc_heap_new (w.alloc (.deferred (some []))) (.loop (rc .ready)); rwa [World.size_alloc] at this
  have hD0 : ((w.alloc (.deferred (some []))).alloc (.loop (rc .ready))).heap[w.heap.size]? = some (.deferred (some [])) :=
    (Below.heap_alloc _ _ _ (by simp)).trans (World.alloc_heap_new w _)
  have hB0 : Below w.heap.size w ((w.alloc (.deferred (some []))).alloc (.loop (rc .ready))) := ((Below.refl _ w).alloc (Nat.le_refl _) _).alloc (by simp) _
  have hen := run_enterLoop_outer (P := P) (w := w) fn a.tmps ps assign body
  rw [show ({ state := .ready, pending := none, fn, tmps := a.tmps, params := ps, assign, body, defers := w.heap.size } : Loop) = rc .ready by rw [hrc]] at hen
  have hI0 := hI 0 _ _ h0 hB0
  generalize (w.alloc (.deferred (some []))).alloc (.loop (rc .ready)) = W1 at *
  refine ⟨w.heap.size + 1, [{ target := .collected w.heap.size, args := #[] }], W1, { target := .fn (.func gf) lb, args := #[.func (.yield (w.heap.size + 1)) #[] #[]] }, W1, gf,
    #[.func (.yield (w.heap.size + 1)) #[] #[]] ++ lb, W1, hen, ?_, fun _ _ => trivial, ?_, fun h => (by cases h), ?_⟩
  · simp only [resolve, hg]
    simp [go_sem]
  · simp [invoke, go_sem, eg]
  · refine (hseq (w.heap.size + 1) (fun k W => I k W ∧ W.heap[w.heap.size + 1]? = some (.loop (rc .ready)) ∧ W.heap[w.heap.size]? = some (.deferred (some []))) W1 hB0 (by omega) ?_ ?_ ⟨hI0, hL0, hD0⟩).mono ?_
    · rintro k W W' ⟨h1, h2, h3⟩ hb
      have hl := (Array.getElem?_eq_some_iff.1 h2).1
      exact ⟨hI _ _ _ h1 hb, (hb.block _ hl).trans h2, (hb.block _ (by omega)).trans h3⟩
    · rintro k x W ⟨hi, hl, hd⟩ hk hx
      have hlt := (Array.getElem?_eq_some_iff.1 hl).1
      have hy := run_yield (P := P) (args := encs k x) hl (by rw [(hst _).2.2.2.2.1]; exact hps k x)
      rw [(hst _).2.2.1, (hst _).2.2.2.1, (hst _).2.2.2.2.1, (hst _).2.2.2.2.2.1, (hst _).2.2.2.2.2.2] at hy
      refine ⟨fn, _, assign, body, hy, roundIn_of_wpIn trivial (hround _ k x W _ (by omega) hi hx hk ?_)⟩
      intro a' W' hb hax
      have hl' := (hb.block _ hlt).trans hl
      have hd' := (hb.block _ (by omega)).trans hd
      have hlt' := (Array.getElem?_eq_some_iff.1 hl').1
      refine ⟨_, run_beginRound hl' (hst _).1, ?_⟩
      rw [hwith]
      have hl2 : (W'.putObj (w.heap.size + 1) (.loop (rc .busy))).heap[w.heap.size + 1]? = some (.loop (rc .busy)) := World.putObj_heap_same hlt'
      have hd2 : (W'.putObj (w.heap.size + 1) (.loop (rc .busy))).heap[w.heap.size]? = some (.deferred (some [])) := (World.putObj_heap_other (by omega)).trans hd'
      have hb2 : Below n₀ W' (W'.putObj (w.heap.size + 1) (.loop (rc .busy))) := belowK_b (w := w) hn₀ W' _ _ _ (by omega) hl' rfl rfl
      refine wpIn_mono (hax _ hb2 World.putObj_size (fun b hb => World.putObj_heap_other hb)) ?_
      rintro e a3 W3 ⟨rfl, hb3, hkp, hi3⟩
      have hl3 := (hkp _ (by omega) (by omega)).trans hl2
      have hd3 := (hkp _ (Nat.le_refl _) (by omega)).trans hd2
      have her := run_endRound (P := P) none hl3
      simp only [Option.isNone_none, if_true] at her
      rw [hwith2] at her
      refine ⟨_, _, her, rfl, ⟨hIp _ _ _ _ hi3 (by omega) (by omega), World.putObj_heap_same (Array.getElem?_eq_some_iff.1 hl3).1, (World.putObj_heap_other (by omega)).trans hd3⟩, ?_⟩
      exact (((hb.mono (by omega)).trans hb2).trans hb3).trans (belowK_b (w := w) hn₀ W3 _ _ _ (by omega) hl3 rfl rfl)
    · rintro e W2 ⟨⟨v, rfl⟩, hi, hl, hd⟩
      have hlt := (Array.getElem?_eq_some_iff.1 hl).1
      have hel := run_endLoop (P := P) hl (by rw [(hst _).1]; simp)
      rw [(hst _).2.1, hwith2] at hel
      refine ⟨none, _, hel, hdone _ (hIp _ _ _ _ hi (by omega) (by omega)) ((World.putObj_heap_other (by omega)).trans hd) ?_⟩
      rw [World.putObj_size]; omega
set_option maxRecDepth 100000 in
/-- a block at or above n₀ is put: nothing below it turns -/
theorem below_put {n₀ : Nat} (W : World) (j : Nat) (o : Obj) (h : n₀ ≤ j) (hs : n₀ ≤ W.heap.size) : Below n₀ W (W.putObj j o) :=
  (Below.refl n₀ W).grown (grownBy_putObj' W j o) hs (fun k e => by cases e; exact h)
end Go.Proofs.Ytipfoclmdbbjiaa

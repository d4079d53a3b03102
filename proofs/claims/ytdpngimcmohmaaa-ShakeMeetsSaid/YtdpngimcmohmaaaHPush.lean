/- A drawn region in which a value is read and a one-element slice is made, in either order, and the one is appended to the other. Lemmas alone. -/
import Derived.Test.YtdpngimcmohmaaaRead
namespace Go.Proofs.Ytdpngimcmohmaaa
open Go.RowKit
set_option maxRecDepth 100000 in
theorem exec_appendP {P : Program} {o : Oper} {a : Act} {w w' : World} {v x r : Value} (s y : Operand) (t u : TypeId) (ho : o.op = .call { callee := .builtin .append, args := #[s, y], argTypes := #[t, u] })
    (hs : a.eval s = v) (hx : a.eval y = x) (hr : (Builtin.append_ #[t, u] o.type #[v, x]).run P w = .ok r w') : (execOp a.eval o).run P w = .ok (.value r) w' := by
  unfold execOp
  simp only [ho, resolve, invoke, builtin, Sem.run_bind, Sem.run_pure, Result.andThen_ok, List.map_toArray, List.map_cons, List.map_nil, hs, hx, hr]
section
variable {P : Program} {ops : Array Oper} {Q : Exit → Act → World → Prop} {S : World → Prop}
set_option maxRecDepth 100000 in
/-- a call, and a fresh block that may come ahead of it or at any place behind it -/
theorem h_pairA {i j : Nat} {oi oj : Oper} {f : FuncId} {args : Array Value} {R : Ending → World → Prop} {v : Value} {fuel : Nat} {listed : Array Bool} {a : Act} {w w1 : World}
    (hc : Calls P f args w R) (hi0 : opAt ops.toList i = some oi) (hj0 : opAt ops.toList j = some oj) (hr : Region.ready .any ops listed = [j, i])
    (wi : Region.wanted oi (yielded ops a.tmps) = true) (wj : Region.wanted oj (yielded ops a.tmps) = true)
    (hv : (execOp a.eval oi).run P w = .ok (.value v) w1) (he : (execOp a.eval oj).run P w = .ok (.enter f args) w) (hS : S w1)
    (h1 : wpAnyH P .any ops (NoPanic Q) S fuel (listed.setIfInBounds i true) (a.put oi.dst v) w1)
    (h2 : ∀ e w', R e w' → ∃ u, e = .returned u ∧ S w' ∧ wpAnyH P .any ops (NoPanic Q) S fuel (listed.setIfInBounds j true) (a.put oj.dst u) w') :
    wpAnyH P .any ops (NoPanic Q) S (fuel + 1) listed a w := by
  refine wpAnyH_all hr (by simp) (fun k hk => ?_)
  have hk2 : k = j ∨ k = i := by simpa using hk
  rcases hk2 with rfl | rfl
  · refine wpOp_step (opAt_of hj0) (fun K' hK => ?_)
    rw [if_pos wj]
    unfold Oper.wp
    rw [he]
    exact hc.mono fun e w' hR => by
      obtain ⟨u, rfl, hS', hx⟩ := h2 e w' hR
      exact hK _ _ ⟨hS', hx⟩
  · refine wpOp_step (opAt_of hi0) (fun K' hK => ?_)
    rw [if_pos wi]
    unfold Oper.wp
    rw [hv]
    exact hK _ _ ⟨hS, h1⟩
set_option maxRecDepth 100000 in
theorem h_push {i j k : Nat} {oi oj ok : Oper} {fuel : Nat} {listed : Array Bool} {a : Act} {w w6 : World} (v r B : Value) (oB : Obj)
    (hi0 : opAt ops.toList i = some oi) (hj0 : opAt ops.toList j = some oj) (hk0 : opAt ops.toList k = some ok)
    (r0 : Region.ready .any ops listed = [i, j]) (ri : Region.ready .any ops (listed.setIfInBounds i true) = [j]) (rj : Region.ready .any ops (listed.setIfInBounds j true) = [i])
    (rij : Region.ready .any ops ((listed.setIfInBounds i true).setIfInBounds j true) = [k])
    (wi : ∀ t, Region.wanted oi t = true) (wj : ∀ t, Region.wanted oj t = true) (wk : ∀ t, Region.wanted ok t = true)
    (vi : (execOp a.eval oi).run P w = .ok (.value v) w) (vi' : (execOp (a.put oj.dst B).eval oi).run P (w.alloc oB) = .ok (.value v) (w.alloc oB))
    (bj : (execOp a.eval oj).run P w = .ok (.value B) (w.alloc oB)) (bj' : (execOp (a.put oi.dst v).eval oj).run P w = .ok (.value B) (w.alloc oB))
    (ek : (execOp ((a.put oi.dst v).put oj.dst B).eval ok).run P (w.alloc oB) = .ok (.value r) w6)
    (hl : (listed.setIfInBounds j true).setIfInBounds i true = (listed.setIfInBounds i true).setIfInBounds j true) (ha : (a.put oj.dst B).put oi.dst v = (a.put oi.dst v).put oj.dst B)
    (hS : S w) (hSa : S (w.alloc oB)) (hS6 : S w6)
    (h : wpAnyH P .any ops (NoPanic Q) S fuel (((listed.setIfInBounds i true).setIfInBounds j true).setIfInBounds k true) (((a.put oi.dst v).put oj.dst B).put ok.dst r) w6) :
    wpAnyH P .any ops (NoPanic Q) S (fuel + 1 + 1 + 1) listed a w := by
  have hk : wpAnyH P .any ops (NoPanic Q) S (fuel + 1) ((listed.setIfInBounds i true).setIfInBounds j true) ((a.put oi.dst v).put oj.dst B) (w.alloc oB) :=
    h_value (i := k) S (fun _ h => h) hk0 rij (wk _) ek hS6 h
  refine wpAnyH_all r0 (by simp) (fun m hm => ?_)
  have hm2 : m = i ∨ m = j := by simpa using hm
  rcases hm2 with rfl | rfl
  · refine wpOp_step (opAt_of hi0) (fun K' hK => ?_)
    rw [if_pos (wi _)]
    unfold Oper.wp
    rw [vi]
    exact hK _ _ ⟨hS, h_value (i := j) S (fun _ h => h) hj0 ri (wj _) bj' hSa hk⟩
  · refine wpOp_step (opAt_of hj0) (fun K' hK => ?_)
    rw [if_pos (wj _)]
    unfold Oper.wp
    rw [bj]
    refine hK _ _ ⟨hSa, h_value (i := i) S (fun _ h => h) hi0 rj (wi _) vi' hSa ?_⟩
    rw [hl, ha]
    exact hk
end
end Go.Proofs.Ytdpngimcmohmaaa

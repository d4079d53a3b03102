/- A call and an operation of a drawn region that may come in either order; boxes that are filled. Lemmas alone. -/
import Derived.Test.YtkcalgolanpjaaaMatMul2
namespace Go.Proofs.Ytkcalgolanpjaaa
open Go.RowKit
section
variable {P : Program} {ops : Array Oper} {Q : Exit → Act → World → Prop} {S : World → Prop}
/-- either of two may come next: a call, or one that is carried out -/
theorem h_pairN {i j : Nat} {oi oj : Oper} {f : FuncId} {args : Array Value} {R : Ending → World → Prop} {v : Value} {fuel : Nat} {listed : Array Bool} {a : Act} {w w1 : World}
    (hc : Calls P f args w R) (hi0 : opAt ops.toList i = some oi) (hj0 : opAt ops.toList j = some oj) (hr : Region.ready .any ops listed = [j, i])
    (wi : Region.wanted oi (yielded ops a.tmps) = true) (wj : Region.wanted oj (yielded ops a.tmps) = true)
    (hv : (execOp a.eval oi).run P w = .ok (.value v) w1) (he : (execOp a.eval oj).run P w = .ok (.enter f args) w) (hS : S w1)
    (h1 : wpAnyH P .any ops (NoPanic Q) S fuel (listed.setIfInBounds i true) (a.put oi.dst v) w1)
    (h2 : ∀ e w', R e w' → ∃ u, e = .returned u ∧ S w' ∧ wpAnyH P .any ops (NoPanic Q) S fuel (listed.setIfInBounds j true) (a.put oj.dst u) w') :
    wpAnyH P .any ops (NoPanic Q) S (fuel + 1) listed a w := by
  refine wpAnyH_all hr (by simp) (fun k hk => ?_)
  have hk2 : k = j ∨ k = i := by simpa using hk
  rcases hk2 with rfl | rfl
  · refine wpOp_step (opAt_of hj0) (fun K' hK => ?_)
    rw [if_pos wj]
    unfold Oper.wp
    rw [he]
    exact hc.mono fun e w' hR => by
      obtain ⟨u, rfl, hS', hx⟩ := h2 e w' hR
      exact hK _ _ ⟨hS', hx⟩
  · refine wpOp_step (opAt_of hi0) (fun K' hK => ?_)
    rw [if_pos wi]
    unfold Oper.wp
    rw [hv]
    exact hK _ _ ⟨hS, h1⟩
end
end Go.Proofs.Ytkcalgolanpjaaa

/- Appending, as a run of the operation itself; two operations of a drawn region that may come in either order. Lemmas alone. -/
import Derived.Test.YtdpmhfpoendooaaCat8
import Derived.Test.YtdpmhfpoendooaaRead
namespace Go.Proofs.Ytdpmhfpoendooaa
open Go.RowKit
theorem run_catB (w : World) (v : Value) (base k : Nat) (f : Nat → Nat) (hown : OwnB w base v k f)
    (A : Option Addr) (c m : Nat) (h : Nat → Nat) (hA : By w A m h) (hnone : A = none → m = 0 ∧ c = 0) (hk : k + m ≤ 100000000) (hbase : base ≤ w.heap.size) (ty : TypeId) :
    ∃ v' w', (Builtin.append_ #[29, 29] ty #[v, .slice A m c]).run Try.prog w = .ok v' w' ∧ OwnB w' base v' (k + m) (catF k f h) ∧ w.grownBy w' v.ownBlock ∧ (∀ b, v'.ownBlock = some b → v.ownBlock = some b ∨ w.heap.size ≤ b) := by
  obtain ⟨i0, hi, hz0, hz1, hz2⟩ := info_parts info8
  have hnews : ∀ ad, A = some ad → ∀ j u, (rowB ((List.range m).map h))[j]? = some u → w.cell? (ad.add j) = some u := by
    intro ad hA2 j u hj
    rw [rowB_get] at hj
    obtain ⟨y, hy, hyu⟩ := Option.map_eq_some_iff.1 hj
    obtain ⟨b, off, he, hc⟩ := hA.sl j y hy
    rw [hA2] at he
    injection he with he
    subst he hyu
    by_cases hz : j = 0
    · subst hz; simpa [Addr.add] using hc
    · simpa [Addr.add, hz] using hc
  have h1c : ∀ u ∈ rowB ((List.range m).map h), u.oneCell' = true := by
    intro u hu
    unfold rowB at hu
    obtain ⟨y, _, rfl⟩ := List.mem_map.1 hu
    rfl
  have hln : (rowB ((List.range m).map h)).length = m * 1 := by rw [rowB_length]; simp
  cases A with
  | none =>
    obtain ⟨rfl, rfl⟩ := hnone rfl
    exact ⟨v, w, run_append_owned_none (P := Try.prog) (w := w) base 29 ty 5 i0 1 Try.underlying29 hi _ k _ hown, OwnB.congr (show OwnB w base v (k + 0) f from hown) (fun j hj => by unfold catF; rw [if_pos (by omega)]), only_refl _ _, fun b hb => .inl hb⟩
  | some ad =>
    have hc := hnews ad rfl
    rcases hown.2 with ⟨hv, hn⟩ | ⟨g, cap, cur, hv, q1, q2, q3, q4, q5, q6⟩
    · subst hn hv
      have hown' : w.ownsRow w.heap.size 5 1 (.slice none 0 0) 0 (rowB ((List.range 0).map f)) := World.ownsRow_nil _ _ _ _
      obtain ⟨v', w', hr, h2, h3, _⟩ := run_append_own (P := Try.prog) w w.heap.size 29 ty 5 i0 (.int .u8 0) 1 1 Try.underlying29 hi hz0 hz1 hz2 rfl (by decide) _ 0 _ hown' ad m c _ hln hc h1c (by unfold maxLen; omega) (by omega) (Nat.le_refl _)
      rw [rowB_cat] at h2
      exact ⟨v', w', hr, own_base h2 hbase, h3, fun b hb => .inr ((World.ownsRow.lt h2) b hb).1⟩
    · subst hv
      by_cases hr : k + m ≤ cap
      · obtain ⟨w', hrun, h2, h3⟩ := run_append_fits (P := Try.prog) w base 29 ty 5 i0 1 Try.underlying29 hi hz1 g k cap _ hown ad m c _ hln hc h1c hr
        rw [rowB_cat] at h2
        exact ⟨_, w', hrun, h2, h3, fun b hb => .inl hb⟩
      · obtain ⟨v', w', hrun, h2, h3⟩ := run_append_arg_grows (P := Try.prog) w 29 ty 5 i0 (.int .u8 0) 1 1 Try.underlying29 hi hz0 hz1 hz2 rfl (by decide) ⟨g, 0, none⟩ k cap (rowB ((List.range k).map f)) (by rw [rowB_length]; simp) (fun j u hj => World.ownsRow.cells hown rfl j u hj) ad m c _ hln hc (by omega) (by unfold maxLen; omega) (by omega)
        rw [rowB_cat] at h2
        exact ⟨v', w', hrun, own_base h2 hbase, ⟨h3.os, h3.tape, h3.output, h3.size, fun i hi _ => h3.block i hi (by simp)⟩, fun b hb => .inr ((World.ownsRow.lt h2) b hb).1⟩
theorem exec_append {P : Program} {o : Oper} {a : Act} {w w' : World} {v x r : Value} (s y : Operand) (t u : TypeId) (ho : o.op = .call { callee := .builtin .append, args := #[s, y], argTypes := #[t, u] })
    (hs : a.eval s = v) (hx : a.eval y = x) (hr : (Builtin.append_ #[t, u] o.type #[v, x]).run P w = .ok r w') : (execOp a.eval o).run P w = .ok (.value r) w' := by
  unfold execOp
  simp only [ho, resolve, invoke, builtin, Sem.run_bind, Sem.run_pure, Result.andThen_ok, List.map_toArray, List.map_cons, List.map_nil, hs, hx, hr]
theorem OwnB.belowB {w0 a b : World} {base n : Nat} {v : Value} {f : Nat → Nat} (h : OwnB a base v n f) (hb : Below base w0 a) (hB : base ≤ w0.heap.size) (hg : a.grownBy b v.ownBlock) : Below base w0 b := below_ownB h hb hB hg
theorem own_made (w : World) (base n : Nat) (hb : base ≤ w.heap.size) (hn : n ≤ 100000000) : OwnB (w.alloc (.cells (madeCells #[.int .u8 0] n) 5)) base (.slice (some ⟨w.heap.size, 0, none⟩) n n) n (fun _ => 0) := by
  unfold OwnB
  refine ⟨by rw [rowB_length]; simp, .inr ⟨w.heap.size, n, _, rfl, hb, last_block0 w _ _ rfl, Nat.le_refl _, by unfold maxLen; omega, by rw [← Array.length_toList, toList_madeCells_one]; simp, ?_⟩⟩
  rw [toList_madeCells_one]
  apply List.ext_getElem?
  intro i
  rw [rowB_get]
  by_cases hi : i < n
  · simp [hi]
  · simp [hi]
section
variable {P : Program} {ops : Array Oper} {Q : Exit → Act → World → Prop} {S : World → Prop}
/-- either of two may come next: one that is carried out, or a call -/
theorem h_pair {i j : Nat} {oi oj : Oper} {f : FuncId} {args : Array Value} {R : Ending → World → Prop} {v : Value} {fuel : Nat} {listed : Array Bool} {a : Act} {w w1 : World}
    (hc : Calls P f args w R) (hi0 : opAt ops.toList i = some oi) (hj0 : opAt ops.toList j = some oj) (hr : Region.ready .any ops listed = [i, j])
    (wi : Region.wanted oi (yielded ops a.tmps) = true) (wj : Region.wanted oj (yielded ops a.tmps) = true)
    (hv : (execOp a.eval oi).run P w = .ok (.value v) w1) (he : (execOp a.eval oj).run P w = .ok (.enter f args) w) (hS : S w1)
    (h1 : wpAnyH P .any ops (NoPanic Q) S fuel (listed.setIfInBounds i true) (a.put oi.dst v) w1)
    (h2 : ∀ e w', R e w' → ∃ u, e = .returned u ∧ S w' ∧ wpAnyH P .any ops (NoPanic Q) S fuel (listed.setIfInBounds j true) (a.put oj.dst u) w') :
    wpAnyH P .any ops (NoPanic Q) S (fuel + 1) listed a w := by
  refine wpAnyH_all hr (by simp) (fun k hk => ?_)
  have hk2 : k = i ∨ k = j := by simpa using hk
  rcases hk2 with rfl | rfl
  · refine wpOp_step (opAt_of hi0) (fun K' hK => ?_)
    rw [if_pos wi]
    unfold Oper.wp
    rw [hv]
    exact hK _ _ ⟨hS, h1⟩
  · refine wpOp_step (opAt_of hj0) (fun K' hK => ?_)
    rw [if_pos wj]
    unfold Oper.wp
    rw [he]
    exact hc.mono fun e w' hR => by
      obtain ⟨u, rfl, hS', hx⟩ := h2 e w' hR
      exact hK _ _ ⟨hS', hx⟩
end
end Go.Proofs.Ytdpmhfpoendooaa

/- Rows of matrices of one's own: row, scaled, mixed, copied; two calls of a drawn region that may come in either order. -/
import Derived.Test.YtkcalgolanpjaaaMat4
namespace Go.Proofs.Ytkcalgolanpjaaa
open Go.RowKit
theorem rowA_own (g C i : Nat) : rowA (some ⟨g, 0, none⟩) C i = some ⟨g, i * C, none⟩ := by
  by_cases h : C = 0
  · subst h; rw [rowA_zero, Nat.mul_zero]
  · rw [rowA_pos g 0 C i h, Nat.zero_add]
theorem m_row_own (R C i g cap : Nat) (w : World) (hi : i < R) (hR : R ≤ 255) (hC : C ≤ 255) (hc : R * C ≤ cap) :
    Calls Try.prog 41 #[.agg #[.int .i64 (R : Nat), .int .i64 (C : Nat), .slice (some ⟨g, 0, none⟩) (R * C) cap], .int .i64 (i : Nat)] w (Ret w (.slice (some ⟨g, i * C, none⟩) C C)) := by
  have h := m_row R C i (some ⟨g, 0, none⟩) cap w (.inr ⟨g, 0, rfl⟩) hi hR hC hc
  rw [rowA_own] at h
  exact h
/-- a row is another one -/
def roF (F : Nat → Nat → Nat) (i : Nat) (v : Nat → Nat) (r c : Nat) : Nat := if r = i then v c else F r c
/-- a row is added, by an element, to another one -/
def mxF (F : Nat → Nat → Nat) (k d i r c : Nat) : Nat := if r = k then F r c ^^^ rmul d (F i c) else F r c
def Bd2 (F : Nat → Nat → Nat) : Prop := ∀ r c, F r c < 256
theorem fl_bd (C : Nat) (F : Nat → Nat → Nat) (h : Bd2 F) (j : Nat) : flF C F j < 256 := h _ _
theorem ro_bd {F : Nat → Nat → Nat} {i : Nat} {v : Nat → Nat} (h : Bd2 F) (hv : ∀ c, v c < 256) : Bd2 (roF F i v) := fun r c => by unfold roF; split; exact hv c; exact h r c
theorem xor_lt256 {a b : Nat} (ha : a < 256) (hb : b < 256) : a ^^^ b < 256 := Nat.xor_lt_two_pow (n := 8) ha hb
theorem mx_bd {F : Nat → Nat → Nat} {k d i : Nat} (h : Bd2 F) : Bd2 (mxF F k d i) := fun r c => by unfold mxF; split; exact xor_lt256 (h r c) (rmul_lt _ _); exact h r c
theorem MRow.part {w : World} {g R C : Nat} {F : Nat → Nat → Nat} (h : MRow w g R C F) (i : Nat) (hi : i < R) : By w (some ⟨g, i * C, none⟩) C (F i) := fun k hk => ⟨g, i * C, rfl, h.cell i k hi hk⟩
theorem m_mixrow (p g R C k i d : Nat) (F : Nat → Nat → Nat) (w : World) (hg : IsGf w p) (hne : p ≠ g) (hm : MRow w g R C F) (hb : Bd2 F) (hk : k < R) (hi : i < R) (hki : k ≠ i) (hd : d < 256) (hR : R ≤ 255) (hC : C ≤ 255) :
    Calls Try.prog 44 #[.pointer (some ⟨p, 0, none⟩), .slice (some ⟨g, k * C, none⟩) C C, .int .u8 (d : Nat), .slice (some ⟨g, i * C, none⟩) C C] w (RowsPost w g R C (mxF F k d i)) := by
  have h2 := rc_le hR hC
  have h := gf_mixo p g (R * C) (k * C) C C d (some ⟨g, i * C, none⟩) C C (flF C F) (F i) w hg hne hm (idx_row hk) (fl_bd C F hb) (hb i) (fun j hj _ => ⟨g, i * C, rfl, hm.cell i j hi hj, fun _ => ⟨by
    rcases Nat.lt_or_gt_of_ne hki with h3 | h3
    · have := idx_row (C := C) h3; omega
    · have := idx_row (C := C) h3; omega, idx_lt hi hj⟩⟩) hd (by omega) (by omega)
  refine h.mono fun e w' hh => ⟨hh.1, MRow.of hh.2.1 (fun r c hr hc => ?_), hh.2.2⟩
  rw [Nat.min_self]
  unfold mixF mxF
  rw [fl_at C F r c hc]
  by_cases e : r = k
  · subst e
    rw [if_pos (by omega), if_pos rfl, Nat.add_sub_cancel_left]
  · rw [if_neg e, if_neg]
    intro h3
    rcases Nat.lt_or_gt_of_ne e with h4 | h4
    · have := idx_row (C := C) h4; omega
    · have := idx_row (C := C) h4; omega
/-- a new row comes back -/
def RowPost (W : World) (m : Nat) (f : Nat → Nat) (e : Ending) (W' : World) : Prop := ∃ g cap, e = .returned (.slice (some ⟨g, 0, none⟩) m cap) ∧ W.heap.size ≤ g ∧ BRow W' g m f ∧ Below W.heap.size W W'
theorem m_scale (p a : Nat) (s : Option Addr) (n cap : Nat) (f : Nat → Nat) (w : World) (hg : IsGf w p) (ha : a < 256) (hs : By w s n f) (hf : ∀ i, f i < 256) (hn : n ≤ 2000) :
    Calls Try.prog 46 #[.pointer (some ⟨p, 0, none⟩), .int .u8 a, .slice s n cap] w (RowPost w n (fun j => rmul a (f j))) := by
  have h := gf_scale p a s cap ((List.range n).map f) w hg ha hs.sl (fun x hx => by obtain ⟨i, _, rfl⟩ := List.mem_map.1 hx; exact hf i) (by simp; exact hn)
  have e : ((List.range n).map f).length = n := by simp
  rw [e] at h
  refine h.mono fun e' w' hh => ?_
  obtain ⟨g, he, ho, hb⟩ := hh
  have e2 : (((List.range n).map f).map (rmul a)).length = n := by simp
  rw [e2] at he ho
  obtain ⟨q1, q2, q3⟩ := own_cap ho
  refine ⟨g, n, he, q3, FRow.own ho fun i hi => ?_, hb⟩
  rw [rowB_get]
  simp [hi]
/-- copy, into a row -/
theorem run_copy_mrow (w : World) (g R C i dc sc : Nat) (F : Nat → Nat → Nat) (s : Option Addr) (v : Nat → Nat) (ty : TypeId) (hm : MRow w g R C F) (hi : i < R) (hs : By w s C v) :
    ∃ w', (Builtin.copy_ #[22, 22] ty #[.slice (some ⟨g, i * C, none⟩) C dc, .slice s C sc]).run Try.prog w = .ok (goInt C) w' ∧ MRow w' g R C (roF F i v) ∧ w.grownBy w' (some g) := by
  have hs8 : (Try.prog.info? 5).map (·.size) = some 1 := by
    obtain ⟨i0, h1, _, h2, _⟩ := info_parts info8
    rw [h1]; simp [h2]
  rcases Nat.eq_zero_or_pos C with h0 | h0
  · subst h0
    refine ⟨w, run_copy_none (P := Try.prog) w 22 22 ty 5 _ _ 0 dc 0 sc Try.underlying22 hs8 rfl, hm.congr (fun r c _ hc => absurd hc (by omega)), only_refl _ _⟩
  · obtain ⟨b, off, rfl, _⟩ := hs 0 h0
    have hm0 := hm
    obtain ⟨D, hD, hsz, hcell⟩ := hm
    have hlen : (rowB ((List.range C).map v)).length = C := by rw [rowB_length]; simp
    have hrow := idx_row (C := C) hi
    have hrun := run_copy_row (P := Try.prog) w 22 22 ty 5 g (i * C) C dc ⟨b, off, none⟩ C sc D 5 (rowB ((List.range C).map v)) Try.underlying22 hs8 hD (by rw [hlen]; exact (Nat.min_self C).symm) (by
      intro j u hj
      rw [rowB_get] at hj
      obtain ⟨y, hy, hyu⟩ := Option.map_eq_some_iff.1 hj
      obtain ⟨b2, off2, he, hc⟩ := hs.sl j y hy
      injection he with he
      injection he with he1 he2
      subst he1 he2 hyu
      rw [add_none]; exact hc) (by rw [hlen]; omega) (by
      intro u hu
      unfold rowB at hu
      obtain ⟨y, _, rfl⟩ := List.mem_map.1 hu
      rfl)
    rw [hlen] at hrun
    refine ⟨_, hrun, MRow.of (f := fun j => if i * C ≤ j ∧ j < i * C + C then v (j - i * C) else flF C F j) ⟨_, setRow_heap _ _ _ _ _ _ hD, ?_, fun j hj => ?_⟩ (fun r c hr hc => ?_), ?_⟩
    · simp only [List.size_toArray, List.length_append, List.length_take, List.length_drop, Array.length_toList, hlen]; omega
    · have hj2 := hcell j hj
      rw [← Array.getElem?_toList] at hj2 ⊢
      simp only []
      by_cases h1 : j < i * C
      · rw [List.getElem?_append_left (by simp only [List.length_append, List.length_take, Array.length_toList, hlen]; omega), List.getElem?_append_left (by simp only [List.length_take, Array.length_toList]; omega), List.getElem?_take, if_pos h1, if_neg (by omega)]
        exact hj2
      · by_cases h2 : j < i * C + C
        · rw [List.getElem?_append_left (by simp only [List.length_append, List.length_take, Array.length_toList, hlen]; omega), List.getElem?_append_right (by simp only [List.length_take, Array.length_toList]; omega), rowB_get, if_pos (by omega)]
          have e : j - (List.take (i * C) D.toList).length = j - i * C := by simp only [List.length_take, Array.length_toList]; omega
          rw [e, List.getElem?_map, List.getElem?_range (by omega)]
          rfl
        · rw [List.getElem?_append_right (by simp only [List.length_append, List.length_take, Array.length_toList, hlen]; omega), List.getElem?_drop, if_neg (by omega)]
          have e : i * C + C + (j - (List.take (i * C) D.toList ++ rowB ((List.range C).map v)).length) = j := by simp only [List.length_append, List.length_take, Array.length_toList, hlen]; omega
          rw [e]
          exact hj2
    · rw [fl_at C F r c hc]
      unfold roF
      by_cases e : r = i
      · subst e
        rw [if_pos (by omega), if_pos rfl, Nat.add_sub_cancel_left]
      · rw [if_neg e, if_neg]
        intro h3
        rcases Nat.lt_or_gt_of_ne e with h4 | h4
        · have := idx_row (C := C) h4; omega
        · have := idx_row (C := C) h4; omega
    · exact only_setRow (only_refl _ _) (.inl rfl) _
theorem exec_appendM {P : Program} {o : Oper} {a : Act} {w w' : World} {v x r : Value} (s y : Operand) (t u : TypeId) (ho : o.op = .call { callee := .builtin .append, args := #[s, y], argTypes := #[t, u] })
    (hs : a.eval s = v) (hx : a.eval y = x) (hr : (Builtin.append_ #[t, u] o.type #[v, x]).run P w = .ok r w') : (execOp a.eval o).run P w = .ok (.value r) w' := by
  unfold execOp
  simp only [ho, resolve, invoke, builtin, Sem.run_bind, Sem.run_pure, Result.andThen_ok, List.map_toArray, List.map_cons, List.map_nil, hs, hx, hr]
theorem exec_copy {P : Program} {o : Oper} {a : Act} {w w' : World} {v x r : Value} (s y : Operand) (t u : TypeId) (ho : o.op = .call { callee := .builtin .copy, args := #[s, y], argTypes := #[t, u] })
    (hs : a.eval s = v) (hx : a.eval y = x) (hr : (Builtin.copy_ #[t, u] o.type #[v, x]).run P w = .ok r w') : (execOp a.eval o).run P w = .ok (.value r) w' := by
  unfold execOp
  simp only [ho, resolve, invoke, builtin, Sem.run_bind, Sem.run_pure, Result.andThen_ok, List.map_toArray, List.map_cons, List.map_nil, hs, hx, hr]
section
variable {P : Program} {ops : Array Oper} {Q : Exit → Act → World → Prop} {S : World → Prop}
/-- either of two may come next: one that is carried out, or a call -/
theorem h_pairM {i j : Nat} {oi oj : Oper} {f : FuncId} {args : Array Value} {R : Ending → World → Prop} {v : Value} {fuel : Nat} {listed : Array Bool} {a : Act} {w w1 : World}
    (hc : Calls P f args w R) (hi0 : opAt ops.toList i = some oi) (hj0 : opAt ops.toList j = some oj) (hr : Region.ready .any ops listed = [i, j])
    (wi : Region.wanted oi (yielded ops a.tmps) = true) (wj : Region.wanted oj (yielded ops a.tmps) = true)
    (hv : (execOp a.eval oi).run P w = .ok (.value v) w1) (he : (execOp a.eval oj).run P w = .ok (.enter f args) w) (hS : S w1)
    (h1 : wpAnyH P .any ops (NoPanic Q) S fuel (listed.setIfInBounds i true) (a.put oi.dst v) w1)
    (h2 : ∀ e w', R e w' → ∃ u, e = .returned u ∧ S w' ∧ wpAnyH P .any ops (NoPanic Q) S fuel (listed.setIfInBounds j true) (a.put oj.dst u) w') :
    wpAnyH P .any ops (NoPanic Q) S (fuel + 1) listed a w := by
  refine wpAnyH_all hr (by simp) (fun k hk => ?_)
  have hk2 : k = i ∨ k = j := by simpa using hk
  rcases hk2 with rfl | rfl
  · refine wpOp_step (opAt_of hi0) (fun K' hK => ?_)
    rw [if_pos wi]
    unfold Oper.wp
    rw [hv]
    exact hK _ _ ⟨hS, h1⟩
  · refine wpOp_step (opAt_of hj0) (fun K' hK => ?_)
    rw [if_pos wj]
    unfold Oper.wp
    rw [he]
    exact hc.mono fun e w' hR => by
      obtain ⟨u, rfl, hS', hx⟩ := h2 e w' hR
      exact hK _ _ ⟨hS', hx⟩
/-- either of two that are carried out may come next -/
theorem h_pairV {i j : Nat} {oi oj : Oper} {v u : Value} {fuel : Nat} {listed : Array Bool} {a : Act} {w w1 w2 : World}
    (hi0 : opAt ops.toList i = some oi) (hj0 : opAt ops.toList j = some oj) (hr : Region.ready .any ops listed = [i, j])
    (wi : Region.wanted oi (yielded ops a.tmps) = true) (wj : Region.wanted oj (yielded ops a.tmps) = true)
    (hv : (execOp a.eval oi).run P w = .ok (.value v) w1) (hu : (execOp a.eval oj).run P w = .ok (.value u) w2) (hS1 : S w1) (hS2 : S w2)
    (h1 : wpAnyH P .any ops (NoPanic Q) S fuel (listed.setIfInBounds i true) (a.put oi.dst v) w1)
    (h2 : wpAnyH P .any ops (NoPanic Q) S fuel (listed.setIfInBounds j true) (a.put oj.dst u) w2) :
    wpAnyH P .any ops (NoPanic Q) S (fuel + 1) listed a w := by
  refine wpAnyH_all hr (by simp) (fun k hk => ?_)
  have hk2 : k = i ∨ k = j := by simpa using hk
  rcases hk2 with rfl | rfl
  · refine wpOp_step (opAt_of hi0) (fun K' hK => ?_)
    rw [if_pos wi]
    unfold Oper.wp
    rw [hv]
    exact hK _ _ ⟨hS1, h1⟩
  · refine wpOp_step (opAt_of hj0) (fun K' hK => ?_)
    rw [if_pos wj]
    unfold Oper.wp
    rw [hu]
    exact hK _ _ ⟨hS2, h2⟩
/-- two calls that may come in either order -/
theorem h_two {i j : Nat} {oi oj : Oper} {fi fj : FuncId} {ai aj : Array Value} {vi vj : Value} {fuel : Nat} {listed : Array Bool} {a : Act} {w : World} (T : World → Prop) (hS : T w) (hcl : ∀ x x', T x → Below x.heap.size x x' → T x') (hTS : ∀ x, T x → S x)
    (ci : ∀ x, T x → Calls P fi ai x (Ret x vi)) (cj : ∀ x, T x → Calls P fj aj x (Ret x vj))
    (hi0 : opAt ops.toList i = some oi) (hj0 : opAt ops.toList j = some oj) (hr : Region.ready .any ops listed = [i, j]) (hri : Region.ready .any ops (listed.setIfInBounds i true) = [j]) (hrj : Region.ready .any ops (listed.setIfInBounds j true) = [i])
    (wi : Region.wanted oi (yielded ops a.tmps) = true) (wj : Region.wanted oj (yielded ops a.tmps) = true) (wi' : Region.wanted oi (yielded ops (a.put oj.dst vj).tmps) = true) (wj' : Region.wanted oj (yielded ops (a.put oi.dst vi).tmps) = true)
    (ei : ∀ x, (execOp a.eval oi).run P x = .ok (.enter fi ai) x) (ej : ∀ x, (execOp a.eval oj).run P x = .ok (.enter fj aj) x)
    (ei' : ∀ x, (execOp (a.put oj.dst vj).eval oi).run P x = .ok (.enter fi ai) x) (ej' : ∀ x, (execOp (a.put oi.dst vi).eval oj).run P x = .ok (.enter fj aj) x)
    (hl : (listed.setIfInBounds j true).setIfInBounds i true = (listed.setIfInBounds i true).setIfInBounds j true) (ha : (a.put oj.dst vj).put oi.dst vi = (a.put oi.dst vi).put oj.dst vj)
    (h : ∀ x, T x → wpAnyH P .any ops (NoPanic Q) S fuel ((listed.setIfInBounds i true).setIfInBounds j true) ((a.put oi.dst vi).put oj.dst vj) x) :
    wpAnyH P .any ops (NoPanic Q) S (fuel + 1 + 1) listed a w := by
  refine wpAnyH_all hr (by simp) (fun k hk => ?_)
  have hk2 : k = i ∨ k = j := by simpa using hk
  rcases hk2 with rfl | rfl
  · refine wpOp_step (opAt_of hi0) (fun K' hK => ?_)
    rw [if_pos wi]
    unfold Oper.wp
    rw [ei w]
    exact (ci w hS).mono fun e w' ⟨he, hb⟩ => by
      subst he
      have hS' := hcl w w' hS hb
      exact hK _ _ ⟨hTS w' hS', h_call (i := j) S (fun _ h => h) (cj w' hS') hj0 hri wj' (ej' w') (fun e w2 ⟨he, hb2⟩ => ⟨vj, he, hTS w2 (hcl w' w2 hS' hb2), h w2 (hcl w' w2 hS' hb2)⟩)⟩
  · refine wpOp_step (opAt_of hj0) (fun K' hK => ?_)
    rw [if_pos wj]
    unfold Oper.wp
    rw [ej w]
    exact (cj w hS).mono fun e w' ⟨he, hb⟩ => by
      subst he
      have hS' := hcl w w' hS hb
      exact hK _ _ ⟨hTS w' hS', h_call (i := i) S (fun _ h => h) (ci w' hS') hi0 hrj wi' (ei' w') (fun e w2 ⟨he, hb2⟩ => ⟨vi, he, hTS w2 (hcl w' w2 hS' hb2), by rw [hl, ha]; exact h w2 (hcl w' w2 hS' hb2)⟩)⟩
end
end Go.Proofs.Ytkcalgolanpjaaa

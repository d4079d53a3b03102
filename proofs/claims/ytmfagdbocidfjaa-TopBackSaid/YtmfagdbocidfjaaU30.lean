import Derived.Test.YtmfagdbocidfjaaU29
import Derived.OpenShut
import Derived.Test.YtmfagdbocidfjaaU27
import Derived.Test.YtmfagdbocidfjaaU02
/- What a walk is told of an array or a struct that came in by value: its cells hold values of their kinds. Lemmas alone. -/
namespace Go.Proofs.Ytmfagdbocidfjaa
open Go.RowKit Go.ChangeShapes Go.WideShapes Go.ChangeAt Go.Deep
set_option maxRecDepth 100000 in
theorem flat_array {P : Program} {t e : TypeId} {n : Nat} {ks ks' : List (Option IntKind)} (hu : P.underlying t = some (.array n e)) (hF : Flat P e ks') (hC : P.cellsOf e = ks'.length)
    (hf : ∀ (j : Nat) (k : Option IntKind), ks[j]? = some k → ∃ (i : Nat) (j' : Nat), i < n ∧ j = i * ks'.length + j' ∧ ks'[j']? = some k) : Flat P t ks := by
  intro H enc w base spare held fuel cs x hx j k hj
  obtain ⟨i, j', hi, rfl, hk⟩ := hf j k hj
  obtain ⟨xs, m, _, _, hlen, hxl, hg⟩ := DataW.trod_array hu hx
  have h1 := hg i hi
  rw [List.getElem?_eq_getElem (by omega : i < xs.length)] at h1
  obtain ⟨v, hv, hok⟩ := hF H enc w base spare held m _ _ h1 j' k hk
  have hlt : j' < P.cellsOf e := by rw [hC]; exact (List.getElem?_eq_some_iff.1 hk).1
  refine ⟨v, ?_, hok⟩
  rw [List.getElem?_take, if_pos hlt, List.getElem?_drop, hC] at hv
  exact hv
def IsAgg (ks : List (Option IntKind)) (v : Value) : Prop := ∃ cs : Array Value, v = .agg cs ∧ cs.size = ks.length ∧ ∀ (j : Nat) (k : Option IntKind), ks[j]? = some k → ∃ u, cs[j]? = some u ∧ FOk k u
set_option maxRecDepth 100000 in
theorem okWide_array {P : Program} {w : World} {r : Reach} {base : Nat} {t e : TypeId} {n : Nat} {v : Value} (ht : P.underlying t = some (.array n e)) (h : Value.okWide P w r base t v) : ∃ cs, v = .agg cs ∧ cs.size = P.cellsOf t := by
  simp only [Value.okWide, ht] at h
  obtain ⟨cs, h1, h2, _⟩ := h
  exact ⟨cs, h1, h2⟩
set_option maxRecDepth 100000 in
theorem isAgg_open {H : Type} {enc : TypeId × Value → H} {P : Program} {W : World} {t : TypeId} {ks : List (Option IntKind)} {v : Value} {d : DataW H} {p : List MemPlace}
    (hv : ∃ cs, v = .agg cs ∧ cs.size = P.cellsOf t) (hF : Flat P t ks) (hC : P.cellsOf t = ks.length) (h : DataW.Trod enc P W 0 (fun _ => true) true t v d p) : IsAgg ks v := by
  obtain ⟨cs, rfl, hs⟩ := hv
  obtain ⟨fuel, hf⟩ := h
  refine ⟨cs, rfl, by rw [hs, hC], fun j k hj => ?_⟩
  obtain ⟨u, hu, hok⟩ := hF H enc W 0 _ true fuel _ _ hf j k hj
  exact ⟨u, by simpa [Value.cells] using hu, hok⟩
set_option maxRecDepth 100000 in
theorem agg2 {k0 k1 : IntKind} {v : Value} (h : IsAgg [some k0, some k1] v) : ∃ x y, v = .agg #[.int k0 x, .int k1 y] ∧ (Lit.int k0 x).wf = true ∧ (Lit.int k1 y).wf = true := by
  obtain ⟨cs, rfl, hs, hc⟩ := h
  obtain ⟨u0, h0, x, rfl, w0⟩ := hc 0 _ rfl
  obtain ⟨u1, h1, y, rfl, w1⟩ := hc 1 _ rfl
  refine ⟨x, y, ?_, w0, w1⟩
  congr 1
  apply Array.ext_getElem?
  intro i
  rcases Nat.lt_or_ge i 2 with h | h
  · have : i = 0 ∨ i = 1 := by omega
    rcases this with rfl | rfl
    · rw [h0]; rfl
    · rw [h1]; rfl
  · rw [Array.getElem?_eq_none (by simp at hs; omega), Array.getElem?_eq_none (by simpa using h)]
end Go.Proofs.Ytmfagdbocidfjaa

/- What the law TopBack holds in memory: an engine, and two rows of inputs. Lemmas alone. -/
namespace Go.Proofs.Ytmfagdbocidfjaa
open Go.RowKit
set_option maxRecDepth 100000 in
theorem agg4 {k0 k1 k2 k3 : IntKind} {v : Value} (h : IsAgg [some k0, some k1, some k2, some k3] v) : ∃ x y z u, v = .agg #[.int k0 x, .int k1 y, .int k2 z, .int k3 u] ∧ (Lit.int k0 x).wf = true ∧ (Lit.int k1 y).wf = true ∧ (Lit.int k2 z).wf = true ∧ (Lit.int k3 u).wf = true := by
  obtain ⟨cs, rfl, hs, hc⟩ := h
  obtain ⟨u0, h0, x, rfl, w0⟩ := hc 0 _ rfl
  obtain ⟨u1, h1, y, rfl, w1⟩ := hc 1 _ rfl
  obtain ⟨u2, h2, z, rfl, w2⟩ := hc 2 _ rfl
  obtain ⟨u3, h3, u, rfl, w3⟩ := hc 3 _ rfl
  refine ⟨x, y, z, u, ?_, w0, w1, w2, w3⟩
  congr 1
  apply Array.ext_getElem?
  intro j
  have hs4 : cs.size = 4 := hs
  rcases j with _ | _ | _ | _ | j
  · exact h0
  · exact h1
  · exact h2
  · exact h3
  · rw [Array.getElem?_eq_none (by omega), Array.getElem?_eq_none (by show 4 ≤ _; omega)]
set_option maxRecDepth 100000 in
/-- the calls: whether each is the peer's, and its input -/
theorem calls_open {w : World} {a : Option Addr} {len cap : Nat} (h : IsRec [none, some .u16] w a len cap) : ∃ (rm : Nat → Bool) (xi : Nat → Int), ∀ i, i < len → ∃ b off, a = some ⟨b, off, none⟩ ∧ w.cell? ⟨b, off + i * 2, none⟩ = some (.bool (rm i)) ∧ w.cell? ⟨b, off + i * 2 + 1, none⟩ = some (.int .u16 (xi i)) := by
  obtain ⟨f, hk, hc, _⟩ := h
  have key : ∀ i, ∃ o : Bool × Int, i < len → f i 0 = .bool o.1 ∧ f i 1 = .int .u16 o.2 := by
    intro i
    by_cases hi : i < len
    · obtain ⟨t, h0⟩ := (hk i 0 none hi rfl).bool
      obtain ⟨x, h1, w1⟩ := (hk i 1 (some .u16) hi rfl).int
      exact ⟨⟨t, x⟩, fun _ => ⟨h0, h1⟩⟩
    · exact ⟨⟨false, 0⟩, fun h => absurd h hi⟩
  refine ⟨fun i => (key i).choose.1, fun i => (key i).choose.2, fun i hi => ?_⟩
  obtain ⟨h0, h1⟩ := (key i).choose_spec hi
  obtain ⟨b, off, ha, hcell⟩ := hc i hi
  refine ⟨b, off, ha, ?_, ?_⟩
  · rw [← h0]; exact hcell 0 (by decide)
  · rw [← h1]; exact hcell 1 (by decide)
set_option maxRecDepth 100000 in
theorem EnAt.base {W : World} {lo lo' : Nat} {c : EnC} {F0 F1 FS : Nat → Prop} {E : EnS} (h : EnAt W lo c F0 F1 FS E) (hl : lo' ≤ lo) : EnAt W lo' c F0 F1 FS E := ⟨h.b, h.q0.base hl, h.q1.base hl, h.sv.base hl, h.dj, Nat.le_trans hl h.lx⟩
set_option maxRecDepth 100000 in
theorem setR_qr (E : EnS) (c : EnC) (Q : PlS) : (E.setR c Q).qr c = Q := by unfold EnS.setR EnS.qr; split <;> rfl
set_option maxRecDepth 100000 in
theorem Rest.addOk {c : EnC} {S0 : Nat → Int} {E : EnS} {f : Nat} (h : Rest c S0 E f) : (E.qr c).I.length < 256 ∧ (E.qr c).A.length ≤ 10000 ∧ (E.qr c).uf ≤ (E.qr c).I.length := by
  have h1 := h.ir
  have h2 := h.ia
  have h3 := h.ah
  have h4 := h.a0
  have h5 := h.a1
  have h6 := h.u0
  have h7 := h.u1
  have h8 := h.fb
  unfold EnS.qr at h1 h2 ⊢
  by_cases e : c.loc = 0
  · simp only [if_pos e] at h1 h2 ⊢; omega
  · simp only [if_neg e] at h1 h2 ⊢; omega
set_option maxRecDepth 100000 in
theorem adv_I (E1 : EnS) (c : EnC) (f : Nat) (x hh bl : Int) : (c.loc = 0 → ((E1.adv c f x hh).drops bl).Q0.I = E1.Q0.I ++ [x] ∧ ((E1.adv c f x hh).drops bl).Q1.I = E1.Q1.I) ∧ (c.loc ≠ 0 → ((E1.adv c f x hh).drops bl).Q0.I = E1.Q0.I ∧ ((E1.adv c f x hh).drops bl).Q1.I = E1.Q1.I ++ [x]) := by
  unfold EnS.adv EnS.setL EnS.ql
  refine ⟨fun e => ?_, fun e => ?_⟩
  · rw [if_pos e, if_pos e]; exact ⟨rfl, rfl⟩
  · rw [if_neg e, if_neg e]; exact ⟨rfl, rfl⟩
set_option maxRecDepth 100000 in
theorem cell_heap {w w' : World} {b o : Nat} (h : w'.heap[b]? = w.heap[b]?) : w'.cell? ⟨b, o, none⟩ = w.cell? ⟨b, o, none⟩ := by
  unfold World.cell?
  simp only [h]
set_option maxRecDepth 100000 in
theorem eqGuard_st (x y : Operand) (xs ys : Array Value) (w : World) : (eqGuard .eql 49 x y (.agg xs) (.agg ys)).run Try.prog w = .ok () w := run_eqGuard_agg w .eql _ x y xs ys (by kernel_rfl)
/-- the law's memory -/
structure LwAt (W0 wr : World) (c : EnC) (E : EnS) (g2 g7 : Nat) (cfg : Array Value) (v0 v1 : Value) (J0 J1 : List Int) : Prop where
  en : ∃ F0 F1 FS, EnAt wr W0.heap.size c F0 F1 FS E ∧ (∀ b, v0.ownBlock = some b → ¬ enFoot c F0 F1 FS b) ∧ (∀ b, v1.ownBlock = some b → ¬ enFoot c F0 F1 FS b)
  h2 : wr.heap[g2]? = some (.cells cfg 24 (0, 0))
  h7 : wr.heap[g7]? = some (.cells #[v0, v1] 32 (0, 0))
  r0 : VAt wr W0.heap.size 34 1 v0 J0.length (inRow J0)
  r1 : VAt wr W0.heap.size 34 1 v1 J1.length (inRow J1)
  dj : ∀ b, v0.ownBlock = some b → v1.ownBlock ≠ some b
  lo : Below W0.heap.size W0 wr
  l2 : W0.heap.size ≤ g2
  l7 : W0.heap.size ≤ g7
section
variable {W0 wr w' : World} {c : EnC} {E E' : EnS} {g2 g7 : Nat} {cfg : Array Value} {v0 v1 : Value} {J0 J1 : List Int}
set_option maxRecDepth 100000 in
theorem LwAt.g2lt (h : LwAt W0 wr c E g2 g7 cfg v0 v1 J0 J1) : g2 < wr.heap.size := (Array.getElem?_eq_some_iff.1 h.h2).1
set_option maxRecDepth 100000 in
theorem LwAt.g7lt (h : LwAt W0 wr c E g2 g7 cfg v0 v1 J0 J1) : g7 < wr.heap.size := (Array.getElem?_eq_some_iff.1 h.h7).1
set_option maxRecDepth 100000 in
/-- the engine, and what a call of it leaves -/
theorem LwAt.hand (h : LwAt W0 wr c E g2 g7 cfg v0 v1 J0 J1) : ∃ F0 F1 FS, EnAt wr W0.heap.size c F0 F1 FS E ∧ ∀ w' E', EnTo wr W0.heap.size c (enFoot c F0 F1 FS) E' w' → LwAt W0 w' c E' g2 g7 cfg v0 v1 J0 J1 := by
  obtain ⟨F0, F1, FS, hA, d0, d1⟩ := h.en
  refine ⟨F0, F1, FS, hA, fun w' E' hE => ?_⟩
  obtain ⟨H0, H1, HS, hA2, hT, hs⟩ := hE
  have n2 := hA.not h.h2 (by decide) (by decide) (by decide) (by decide) (by decide) (by decide) (by decide)
  have n7 := hA.not h.h7 (by decide) (by decide) (by decide) (by decide) (by decide) (by decide) (by decide)
  have r0 := h.r0.kept (W' := w') (fun b hb => hT.block b (h.r0.blt b hb) (d0 b hb))
  have r1 := h.r1.kept (W' := w') (fun b hb => hT.block b (h.r1.blt b hb) (d1 b hb))
  refine ⟨⟨H0, H1, HS, hA2, fun b hb hf => ?_, fun b hb hf => ?_⟩, (hT.block g2 h.g2lt n2).trans h.h2, (hT.block g7 h.g7lt n7).trans h.h7, r0, r1, h.dj, h.lo.trans (hT.toBelow h.lo.size (fun b hb => hA.ge b hb)), h.l2, h.l7⟩
  · rcases hs b hf with e | e
    · exact d0 b hb e
    · have := h.r0.blt b hb; omega
  · rcases hs b hf with e | e
    · exact d1 b hb e
    · have := h.r1.blt b hb; omega
set_option maxRecDepth 100000 in
theorem LwAt.below (h : LwAt W0 wr c E g2 g7 cfg v0 v1 J0 J1) (hB : Below wr.heap.size wr w') : LwAt W0 w' c E g2 g7 cfg v0 v1 J0 J1 := by
  obtain ⟨F0, F1, FS, hA, hto⟩ := h.hand
  exact hto w' E (hA.to.below hB)
set_option maxRecDepth 100000 in
theorem LwAt.drewN (h : LwAt W0 wr c E g2 g7 cfg v0 v1 J0 J1) (q : Nat) : LwAt W0 (wr.drewN q) c E g2 g7 cfg v0 v1 J0 J1 := h.below (below_drewN (Below.refl _ _) q)
set_option maxRecDepth 100000 in
/-- an input more in the first row: the row has turned, then the box is told -/
theorem LwAt.row0 (h : LwAt W0 wr c E g2 g7 cfg v0 v1 J0 J1) {v' : Value} {J' : List Int} (hg : wr.grownBy w' v0.ownBlock) (hv : VAt w' W0.heap.size 34 1 v' J'.length (inRow J')) (hf : ∀ b, v'.ownBlock = some b → v0.ownBlock = some b ∨ wr.heap.size ≤ b) :
    w'.heap[g7]? = some (.cells #[v0, v1] 32 (0, 0)) ∧ w'.heap[g2]? = some (.cells cfg 24 (0, 0)) ∧ LwAt W0 (w'.setCell ⟨g7, 0, none⟩ v') c E g2 g7 cfg v' v1 J' J1 := by
  have o7 := h.r0.ne h.h7 (by decide)
  have o2 := h.r0.ne h.h2 (by decide)
  have k7 : w'.heap[g7]? = some (.cells #[v0, v1] 32 (0, 0)) := (hg.block g7 h.g7lt (fun e => o7 g7 e.symm rfl)).trans h.h7
  have k2 : w'.heap[g2]? = some (.cells cfg 24 (0, 0)) := (hg.block g2 h.g2lt (fun e => o2 g2 e.symm rfl)).trans h.h2
  refine ⟨k7, k2, ?_⟩
  obtain ⟨F0, F1, FS, hA, d0, d1⟩ := h.en
  have n7 := hA.not h.h7 (by decide) (by decide) (by decide) (by decide) (by decide) (by decide) (by decide)
  have hoth : ∀ b, b ≠ g7 → (w'.setCell ⟨g7, 0, none⟩ v').heap[b]? = w'.heap[b]? := fun b hb => heap_setCell_other w' ⟨g7, 0, none⟩ b _ hb
  have n72 : g2 ≠ g7 := bty_ne h.h2 h.h7 (by decide)
  refine ⟨⟨F0, F1, FS, hA.keep (fun b hb => (hoth b (fun e => n7 (e ▸ hb))).trans (hg.block b (hA.lt b hb) (fun e => d0 b e.symm hb))), fun b hb hfb => ?_, d1⟩, (hoth g2 n72).trans k2, ?_, ?_, ?_, fun b hb => ?_, ?_, h.l2, h.l7⟩
  · rcases hf b hb with e | e
    · exact d0 b e hfb
    · have := hA.lt b hfb; omega
  · rw [blk_set k7 0 _]; rfl
  · exact hv.kept (fun b hb => hoth b (hv.ne k7 (by decide) b hb))
  · exact h.r1.kept (fun b hb => (hoth b (h.r1.ne h.h7 (by decide) b hb)).trans (hg.block b (h.r1.blt b hb) (fun e => h.dj b e.symm hb)))
  · rcases hf b hb with e | e
    · exact h.dj b e
    · intro e2; have := h.r1.blt b e2; omega
  · exact Touch.one (below_grown h.lo (Nat.le_refl _) hg (fun p hp => (h.r0.lt p hp).1)) (touch_set w' g7 0 _) h.l7 (Nat.le_trans h.lo.size hg.size)
set_option maxRecDepth 100000 in
theorem LwAt.row1 (h : LwAt W0 wr c E g2 g7 cfg v0 v1 J0 J1) {v' : Value} {J' : List Int} (hg : wr.grownBy w' v1.ownBlock) (hv : VAt w' W0.heap.size 34 1 v' J'.length (inRow J')) (hf : ∀ b, v'.ownBlock = some b → v1.ownBlock = some b ∨ wr.heap.size ≤ b) :
    w'.heap[g7]? = some (.cells #[v0, v1] 32 (0, 0)) ∧ w'.heap[g2]? = some (.cells cfg 24 (0, 0)) ∧ LwAt W0 (w'.setCell ⟨g7, 1, none⟩ v') c E g2 g7 cfg v0 v' J0 J' := by
  have o7 := h.r1.ne h.h7 (by decide)
  have o2 := h.r1.ne h.h2 (by decide)
  have k7 : w'.heap[g7]? = some (.cells #[v0, v1] 32 (0, 0)) := (hg.block g7 h.g7lt (fun e => o7 g7 e.symm rfl)).trans h.h7
  have k2 : w'.heap[g2]? = some (.cells cfg 24 (0, 0)) := (hg.block g2 h.g2lt (fun e => o2 g2 e.symm rfl)).trans h.h2
  refine ⟨k7, k2, ?_⟩
  obtain ⟨F0, F1, FS, hA, d0, d1⟩ := h.en
  have n7 := hA.not h.h7 (by decide) (by decide) (by decide) (by decide) (by decide) (by decide) (by decide)
  have hoth : ∀ b, b ≠ g7 → (w'.setCell ⟨g7, 1, none⟩ v').heap[b]? = w'.heap[b]? := fun b hb => heap_setCell_other w' ⟨g7, 1, none⟩ b _ hb
  have n72 : g2 ≠ g7 := bty_ne h.h2 h.h7 (by decide)
  refine ⟨⟨F0, F1, FS, hA.keep (fun b hb => (hoth b (fun e => n7 (e ▸ hb))).trans (hg.block b (hA.lt b hb) (fun e => d1 b e.symm hb))), d0, fun b hb hfb => ?_⟩, (hoth g2 n72).trans k2, ?_, ?_, ?_, fun b h0 hb => ?_, ?_, h.l2, h.l7⟩
  · rcases hf b hb with e | e
    · exact d1 b e hfb
    · have := hA.lt b hfb; omega
  · rw [blk_set k7 1 _]; rfl
  · exact h.r0.kept (fun b hb => (hoth b (h.r0.ne h.h7 (by decide) b hb)).trans (hg.block b (h.r0.blt b hb) (fun e => h.dj b hb e.symm)))
  · exact hv.kept (fun b hb => hoth b (hv.ne k7 (by decide) b hb))
  · rcases hf b hb with e | e
    · exact h.dj b h0 e
    · have := h.r0.blt b h0; omega
  · exact Touch.one (below_grown h.lo (Nat.le_refl _) hg (fun p hp => (h.r1.lt p hp).1)) (touch_set w' g7 1 _) h.l7 (Nat.le_trans h.lo.size hg.size)
set_option maxRecDepth 100000 in
/-- a state that is no part of it has turned -/
theorem LwAt.off (h : LwAt W0 wr c E g2 g7 cfg v0 v1 J0 J1) {g : Nat} {C : Array Value} (hT : Touch wr w' (fun b => b = g)) (hb : wr.heap[g]? = some (.cells C 49 (0, 0))) (hg : W0.heap.size ≤ g) : LwAt W0 w' c E g2 g7 cfg v0 v1 J0 J1 := by
  obtain ⟨F0, F1, FS, hA, d0, d1⟩ := h.en
  have nA := hA.not hb (by decide) (by decide) (by decide) (by decide) (by decide) (by decide) (by decide)
  exact ⟨⟨F0, F1, FS, hA.keep (fun b hb2 => hT.block b (hA.lt b hb2) (fun e => nA (e ▸ hb2))), d0, d1⟩, (hT.block g2 h.g2lt (fun e => bty_ne h.h2 hb (by decide) e)).trans h.h2, (hT.block g7 h.g7lt (fun e => bty_ne h.h7 hb (by decide) e)).trans h.h7, h.r0.kept (fun b hb2 => hT.block b (h.r0.blt b hb2) (fun e => h.r0.ne hb (by decide) b hb2 e)), h.r1.kept (fun b hb2 => hT.block b (h.r1.blt b hb2) (fun e => h.r1.ne hb (by decide) b hb2 e)), h.dj, Touch.one h.lo hT hg h.lo.size, h.l2, h.l7⟩
set_option maxRecDepth 100000 in
theorem touch_row (W : World) (g : Nat) (C : Array Value) : Touch W (W.setRow g C) (fun b => b = g) := ⟨rfl, rfl, rfl, by rw [size_setRow]; exact Nat.le_refl _, fun k _ hk => setRow_other W g k C hk⟩
set_option maxRecDepth 100000 in
/-- a row's inputs, one by one -/
theorem row_at {W : World} {lo : Nat} {v : Value} {J : List Int} (h : VAt W lo 34 1 v J.length (inRow J)) {n : Nat} (hn : n < J.length) : ∃ b o cap, v = .slice (some ⟨b, o, none⟩) J.length cap ∧ W.cell? ⟨b, o + n, none⟩ = some (.int .u16 (J.getD n 0)) := by
  rcases h.2.2 with ⟨_, h0⟩ | ⟨b, o, cap, C, e, _⟩
  · omega
  · subst e
    exact ⟨b, o, cap, rfl, h.cells rfl n _ (inRow_get J n _ (getD_some J n 0 hn))⟩
set_option maxRecDepth 100000 in
theorem row_more {W : World} {lo : Nat} {v : Value} {J : List Int} {x : Int} (h : VAt W lo 34 1 v (J.length + 1) (inRow J ++ [.int .u16 x])) : VAt W lo 34 1 v (J ++ [x]).length (inRow (J ++ [x])) := by
  rw [inRow_app, List.length_append]
  exact h
set_option maxRecDepth 100000 in
theorem made_row (W : World) (lo d : Nat) (hlo : lo ≤ W.heap.size) (hd : d ≤ 100) : VAt (W.alloc (.cells (madeCells #[.int .u16 0] d) 34)) lo 34 1 (.slice (some ⟨W.heap.size, 0, none⟩) d d) (List.replicate d (0 : Int)).length (inRow (List.replicate d 0)) := by
  rw [List.length_replicate]
  refine ⟨?_, fun u hu => ?_, .inr ⟨W.heap.size, 0, d, _, rfl, hlo, last0 _ _ _ rfl, Nat.le_refl _, by unfold maxLen; omega, fun _ => by rw [size_madeCells]; omega, fun j u hj => ?_⟩⟩
  · unfold inRow; rw [List.length_map, List.length_replicate]; omega
  · unfold inRow at hu; obtain ⟨x, _, rfl⟩ := List.mem_map.1 hu; rfl
  · unfold inRow at hj
    rw [List.getElem?_map] at hj
    have hjd : j < d := by
      have := (List.getElem?_eq_some_iff.1 (by rw [← List.getElem?_map] at hj; exact hj)).1
      simpa using this
    rw [List.getElem?_replicate, if_pos hjd] at hj
    have hu : Value.int .u16 0 = u := Option.some.inj hj
    rw [← hu, Nat.zero_add, ← Array.getElem?_toList, toList_madeCells_one]
    simp [hjd]
set_option maxRecDepth 100000 in
theorem mk_in (n : Nat) (hn : n ≤ 100000) (w : World) : (Instr.makeSlice 31 (.int .i64 (n : Int)) (.int .i64 (n : Int))).run Try.prog w = .ok (.slice (some ⟨w.heap.size, 0, none⟩) n n) (w.alloc (.cells (madeCells #[.int .u16 0] n) 34)) :=
  make_row (P := Try.prog) Try.underlying31 info_in n (by omega) (by decide) w
end
section
variable {P : Program} {ops : Array Oper} {Q : Exit → Act → World → Prop} {S : World → Prop}
set_option maxRecDepth 100000 in
/-- two operations ready at once, in either order: the first only reads, the second may make memory -/
theorem h_twoW {i j : Nat} {oi oj : Oper} {vi vj : Value} {fuel : Nat} {listed : Array Bool} {a : Act} {w w1 : World}
    (hi0 : opAt ops.toList i = some oi) (hj0 : opAt ops.toList j = some oj)
    (r0 : Region.ready .any ops listed = [i, j]) (ri : Region.ready .any ops (listed.setIfInBounds i true) = [j]) (rj : Region.ready .any ops (listed.setIfInBounds j true) = [i])
    (wi : ∀ t, Region.wanted oi t = true) (wj : ∀ t, Region.wanted oj t = true)
    (ei : (execOp a.eval oi).run P w = .ok (.value vi) w) (ej : (execOp a.eval oj).run P w = .ok (.value vj) w1)
    (ei' : (execOp (a.put oj.dst vj).eval oi).run P w1 = .ok (.value vi) w1) (ej' : (execOp (a.put oi.dst vi).eval oj).run P w = .ok (.value vj) w1)
    (hl : (listed.setIfInBounds j true).setIfInBounds i true = (listed.setIfInBounds i true).setIfInBounds j true) (ha : (a.put oj.dst vj).put oi.dst vi = (a.put oi.dst vi).put oj.dst vj)
    (hS : S w) (hS1 : S w1) (h : wpAnyH P .any ops (NoPanic Q) S fuel ((listed.setIfInBounds i true).setIfInBounds j true) ((a.put oi.dst vi).put oj.dst vj) w1) :
    wpAnyH P .any ops (NoPanic Q) S (fuel + 1 + 1) listed a w := by
  refine wpAnyH_all r0 (by simp) (fun m hm => ?_)
  have hm2 : m = i ∨ m = j := by simpa using hm
  rcases hm2 with rfl | rfl
  · refine wpOp_step (opAt_of hi0) (fun K' hK => ?_)
    rw [if_pos (wi _)]
    unfold Oper.wp
    rw [ei]
    exact hK _ _ ⟨hS, h_value (i := j) S (fun _ h => h) hj0 ri (wj _) ej' hS1 h⟩
  · refine wpOp_step (opAt_of hj0) (fun K' hK => ?_)
    rw [if_pos (wj _)]
    unfold Oper.wp
    rw [ej]
    refine hK _ _ ⟨hS1, h_value (i := i) S (fun _ h => h) hi0 rj (wi _) ei' hS1 ?_⟩
    rw [hl, ha]
    exact h
end
end Go.Proofs.Ytmfagdbocidfjaa

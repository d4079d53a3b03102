import Derived.Test.YtipfoclmdbbjiaaU12
import Derived.OpenShut
/- What a walk is told of an array or a struct that came in by value: its cells hold values of their kinds. Lemmas alone. -/
namespace Go.Proofs.Ytipfoclmdbbjiaa
open Go.RowKit Go.ChangeShapes Go.WideShapes Go.ChangeAt Go.Deep
set_option maxRecDepth 100000 in
theorem flat_array {P : Program} {t e : TypeId} {n : Nat} {ks ks' : List (Option IntKind)} (hu : P.underlying t = some (.array n e)) (hF : Flat P e ks') (hC : P.cellsOf e = ks'.length)
    (hf : ∀ (j : Nat) (k : Option IntKind), ks[j]? = some k → ∃ (i : Nat) (j' : Nat), i < n ∧ j = i * ks'.length + j' ∧ ks'[j']? = some k) : Flat P t ks := by
  intro H enc w base spare held fuel cs x hx j k hj
  obtain ⟨i, j', hi, rfl, hk⟩ := hf j k hj
  obtain ⟨xs, m, _, _, hlen, hxl, hg⟩ := DataW.trod_array hu hx
  have h1 := hg i hi
  rw [List.getElem?_eq_getElem (by omega : i < xs.length)] at h1
  obtain ⟨v, hv, hok⟩ := hF H enc w base spare held m _ _ h1 j' k hk
  have hlt : j' < P.cellsOf e := by rw [hC]; exact (List.getElem?_eq_some_iff.1 hk).1
  refine ⟨v, ?_, hok⟩
  rw [List.getElem?_take, if_pos hlt, List.getElem?_drop, hC] at hv
  exact hv
def IsAgg (ks : List (Option IntKind)) (v : Value) : Prop := ∃ cs : Array Value, v = .agg cs ∧ cs.size = ks.length ∧ ∀ (j : Nat) (k : Option IntKind), ks[j]? = some k → ∃ u, cs[j]? = some u ∧ FOk k u
set_option maxRecDepth 100000 in
theorem okWide_array {P : Program} {w : World} {r : Reach} {base : Nat} {t e : TypeId} {n : Nat} {v : Value} (ht : P.underlying t = some (.array n e)) (h : Value.okWide P w r base t v) : ∃ cs, v = .agg cs ∧ cs.size = P.cellsOf t := by
  simp only [Value.okWide, ht] at h
  obtain ⟨cs, h1, h2, _⟩ := h
  exact ⟨cs, h1, h2⟩
set_option maxRecDepth 100000 in
theorem isAgg_open {H : Type} {enc : TypeId × Value → H} {P : Program} {W : World} {t : TypeId} {ks : List (Option IntKind)} {v : Value} {d : DataW H} {p : List MemPlace}
    (hv : ∃ cs, v = .agg cs ∧ cs.size = P.cellsOf t) (hF : Flat P t ks) (hC : P.cellsOf t = ks.length) (h : DataW.Trod enc P W 0 (fun _ => true) true t v d p) : IsAgg ks v := by
  obtain ⟨cs, rfl, hs⟩ := hv
  obtain ⟨fuel, hf⟩ := h
  refine ⟨cs, rfl, by rw [hs, hC], fun j k hj => ?_⟩
  obtain ⟨u, hu, hok⟩ := hF H enc W 0 _ true fuel _ _ hf j k hj
  exact ⟨u, by simpa [Value.cells] using hu, hok⟩
set_option maxRecDepth 100000 in
theorem agg2 {k0 k1 : IntKind} {v : Value} (h : IsAgg [some k0, some k1] v) : ∃ x y, v = .agg #[.int k0 x, .int k1 y] ∧ (Lit.int k0 x).wf = true ∧ (Lit.int k1 y).wf = true := by
  obtain ⟨cs, rfl, hs, hc⟩ := h
  obtain ⟨u0, h0, x, rfl, w0⟩ := hc 0 _ rfl
  obtain ⟨u1, h1, y, rfl, w1⟩ := hc 1 _ rfl
  refine ⟨x, y, ?_, w0, w1⟩
  congr 1
  apply Array.ext_getElem?
  intro i
  rcases Nat.lt_or_ge i 2 with h | h
  · have : i = 0 ∨ i = 1 := by omega
    rcases this with rfl | rfl
    · rw [h0]; rfl
    · rw [h1]; rfl
  · rw [Array.getElem?_eq_none (by simp at hs; omega), Array.getElem?_eq_none (by simpa using h)]
end Go.Proofs.Ytipfoclmdbbjiaa

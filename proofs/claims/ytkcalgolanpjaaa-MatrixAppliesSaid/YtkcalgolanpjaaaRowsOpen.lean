/- What a walk is told of a slice of slices of bytes that came in. Lemmas alone. -/
import Derived.Test.YtkcalgolanpjaaaRec
namespace Go.Proofs.Ytkcalgolanpjaaa
open Go.RowKit Go.ChangeShapes Go.WideShapes Go.ChangeAt Go.Deep
/-- each element is a slice of bytes -/
def IsRows (w : World) (a : Option Addr) (len cap : Nat) : Prop :=
  ∃ (A : Nat → Option Addr) (L K : Nat → Nat) (Z : Nat → List Int),
    (∀ i, i < len → ∃ b off, a = some ⟨b, off, none⟩ ∧ w.cell? ⟨b, off + i, none⟩ = some (.slice (A i) (L i) (K i)) ∧ IsRow .u8 w (A i) (L i) (K i) (Z i)) ∧
    len ≤ cap ∧ cap ≤ maxLen ∧ (a = none → len = 0 ∧ cap = 0)
theorem isRows_one {H : Type} {enc : TypeId × Value → H} {P : Program} {W : World} {e b : TypeId} {n : Nat} {v : Value} {x : DataW H × List MemPlace}
    (he : P.underlying e = some (.slice b)) (hb : P.underlying b = some (.int .u8)) (hc : P.cellsOf b = 1)
    (h : DataW.trod enc P W 0 (fun _ => true) true n e [v] = some x) : ∃ a l c z, v = .slice a l c ∧ IsRow .u8 W a l c z := by
  rcases open_ints he hb hc h with ⟨hcs, _⟩ | ⟨x, l, c, zs, hcs, _, hl, hm, hz, _, hcell, hwz⟩
  · injection hcs with hcs
    subst hcs
    exact ⟨none, 0, 0, [], rfl, .inl ⟨rfl, rfl, rfl, rfl⟩⟩
  · injection hcs with hcs
    subst hcs
    exact ⟨some x, l, c, zs, rfl, .inr ⟨x, rfl, hl, hm, by simpa using hz, hcell, hwz⟩⟩
theorem isRows_open {H : Type} {enc : TypeId × Value → H} {P : Program} {W : World} {t e b : TypeId} {a : Option Addr} {len cap : Nat} {d : DataW H} {p : List MemPlace}
    (ht : P.underlying t = some (.slice e)) (he : P.underlying e = some (.slice b)) (hb : P.underlying b = some (.int .u8)) (hce : P.cellsOf e = 1) (hc : P.cellsOf b = 1)
    (h : DataW.Trod enc P W 0 (fun _ => true) true t (.slice a len cap) d p) : IsRows W a len cap := by
  obtain ⟨fuel, hf⟩ := h
  rcases open_slice1 ht hce hf with ⟨hcs, _⟩ | ⟨x, l, c, m, n, V, D, Pl, hcs, _, hl, hm, hmm, _, hi⟩
  · simp [Value.cells] at hcs
    obtain ⟨rfl, rfl, rfl⟩ := hcs
    exact ⟨fun _ => none, fun _ => 0, fun _ => 0, fun _ => [], fun i hi => absurd hi (by omega), Nat.le_refl _, by unfold maxLen; omega, fun _ => ⟨rfl, rfl⟩⟩
  · simp [Value.cells] at hcs
    obtain ⟨rfl, rfl, rfl⟩ := hcs
    simp only [if_true] at hmm
    subst hmm
    have key : ∀ i, i < len → ∃ (y : Option Addr × Nat × Nat × List Int), V i = .slice y.1 y.2.1 y.2.2.1 ∧ IsRow .u8 W y.1 y.2.1 y.2.2.1 y.2.2.2 := fun i hil => by
      obtain ⟨a, l, c, z, h1, h2⟩ := isRows_one he hb hc (hi i (by omega)).2
      exact ⟨(a, l, c, z), h1, h2⟩
    obtain ⟨Y, hY⟩ := choose_lt (α := Option Addr × Nat × Nat × List Int) key
    refine ⟨fun i => (Y i).1, fun i => (Y i).2.1, fun i => (Y i).2.2.1, fun i => (Y i).2.2.2, fun i hil => ?_, hl, hm, fun e => by cases e⟩
    obtain ⟨h1, h2⟩ := hY i hil
    have hcell := (hi i (by omega)).1
    rw [h1] at hcell
    have hspot : x.spot = none := by
      have h0 := (hi 0 (by omega)).1
      simpa [Addr.add] using World.cell?_spot h0
    obtain ⟨b, off, spot⟩ := x
    simp only at hspot
    subst hspot
    rw [add_none] at hcell
    exact ⟨b, off, rfl, hcell, h2⟩
end Go.Proofs.Ytkcalgolanpjaaa

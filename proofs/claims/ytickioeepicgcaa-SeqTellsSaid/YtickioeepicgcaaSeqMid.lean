/- A row of 64 marks stored into the document's state. -/
import Derived.Test.YtickioeepicgcaaSeqRef3
import Derived.Laws.IdiomCopy
namespace Go.Proofs.Ytickioeepicgcaa
open Go.RowKit
attribute [local irreducible] rkA
theorem RkAt.setRange (m : Nat → Bool) (p : Nat) : ∀ (t j : Nat) (s : SqS) (w : World), t + j = 64 → RkAt w p s →
    RkAt (w.setCells p (2 + j) ((List.range' j t).map fun i => Value.bool (m i))) p { s with m := fun i => if j ≤ i then m i else s.m i }
  | 0, j, s, w, hj, h => h.to (rkA_congr _ _ rfl rfl (fun i hi => by simp only; rw [if_neg (by omega)]) rfl rfl rfl)
  | t + 1, j, s, w, hj, h => by
    rw [List.range'_succ, List.map_cons, World.setCells]
    have h1 := h.setm j (m j) (by omega)
    have h2 := RkAt.setRange m p t (j + 1) _ _ (by omega) h1
    rw [← Nat.add_assoc] at h2
    refine h2.to (rkA_congr _ _ rfl rfl (fun i hi => ?_) rfl rfl rfl)
    simp only
    by_cases e : i = j
    · subst e; rw [if_neg (by omega), if_pos rfl, if_pos (Nat.le_refl _)]
    · by_cases e2 : j + 1 ≤ i
      · rw [if_pos e2, if_pos (by omega)]
      · rw [if_neg e2, if_neg e, if_neg (by omega)]
theorem RkAt.setMarks {w : World} {p : Nat} {s : SqS} (h : RkAt w p s) (m : Nat → Bool) : RkAt (w.setCells p 2 ((List.range 64).map fun i => Value.bool (m i))) p { s with m := m } := by
  have h2 := RkAt.setRange m p 64 0 s w rfl h
  rw [← List.range_eq_range'] at h2
  exact h2.to (rkA_congr _ _ rfl rfl (fun i _ => by simp) rfl rfl rfl)
theorem RkAt.otherCells {p q : Nat} {s : SqS} (hne : p ≠ q) : ∀ (vs : List Value) (o : Nat) (w : World), RkAt w p s → RkAt (w.setCells q o vs) p s
  | [], _, _, h => h
  | v :: r, o, w, h => by
    rw [World.setCells]
    exact RkAt.otherCells hne r (o + 1) _ (h.other hne o v)
theorem below_setCells {B p : Nat} {a : World} (hp : B ≤ p) : ∀ (vs : List Value) (o : Nat) (w : World), Below B a w → Below B a (w.setCells p o vs)
  | [], _, _, h => h
  | v :: r, o, w, h => by
    rw [World.setCells]
    exact below_setCells hp r (o + 1) _ (h.setCell (p := ⟨p, o, none⟩) hp v)
end Go.Proofs.Ytickioeepicgcaa

/- What the laws of layer 5 are told of a matrix that is right. Lemmas alone. -/
import Derived.Test.YtkcalgolanpjaaaMat14
import Derived.Test.YtkcalgolanpjaaaMatOpen
namespace Go.Proofs.Ytkcalgolanpjaaa
open Go.RowKit
theorem mx_bytes {w : World} {a : Option Addr} {len cap : Nat} {zs : List Int} (h : IsRow .u8 w a len cap zs) : ∃ f, By w a len f ∧ (∀ j, f j < 256) ∧ (a = none → len = 0 ∧ cap = 0) ∧ len ≤ cap ∧ cap ≤ maxLen := by
  obtain ⟨l, hl, h1, h2, hb, hs⟩ := isRow_nat h 256 u8_bd
  refine ⟨fun i => l.getD i 0, fun i hi => ?_, fun i => ?_, fun e => ?_, h1, h2⟩
  · have hi2 : i < l.length := by omega
    obtain ⟨b, off, hsb, hc⟩ := hs i (l.getD i 0) (by rw [List.getD_eq_getElem?_getD, List.getElem?_eq_getElem hi2]; rfl)
    exact ⟨b, off, hsb, hc⟩
  · show l.getD i 0 < 256
    by_cases hi : i < l.length
    · rw [List.getD_eq_getElem?_getD, List.getElem?_eq_getElem hi]; exact hb _ (List.getElem_mem _)
    · rw [List.getD_eq_getElem?_getD, List.getElem?_eq_none (by omega)]; exact (by decide : 0 < 256)
  · subst e; exact isRow_none h
/-- a matrix that is right -/
structure RMx (w : World) (r c : Int) (a : Option Addr) (len cap R C : Nat) (F : Nat → Nat → Nat) : Prop where
  r : r = (R : Int)
  c : c = (C : Int)
  len : len = R * C
  hR : R ≤ 255
  hC : C ≤ 255
  m : MAt w a R C F
  bd : Bd2 F
  nil : a = none → R * C = 0 ∧ cap = 0
  cap : R * C ≤ cap
theorem mx_right {w : World} {r c : Int} {a : Option Addr} {len cap : Nat} {zs : List Int} (h : IsRow .u8 w a len cap zs) (hr : rightB r c len = true) : ∃ R C F, RMx w r c a len cap R C F := by
  obtain ⟨f, hby, hb, hn, hc, _⟩ := mx_bytes h
  unfold rightB at hr
  simp only [decide_eq_true_eq] at hr
  obtain ⟨h1, h2, h3, h4, h5⟩ := hr
  obtain ⟨R, rfl⟩ : ∃ R : Nat, r = R := ⟨r.toNat, by omega⟩
  obtain ⟨C, rfl⟩ : ∃ C : Nat, c = C := ⟨c.toNat, by omega⟩
  have hlen : len = R * C := by
    have : (len : Int) = ((R * C : Nat) : Int) := by rw [h5]; simp
    exact Int.ofNat.inj this
  subst hlen
  refine ⟨R, C, fun i k => f (i * C + k), rfl, rfl, rfl, by omega, by omega, fun i k hi hk => ?_, fun _ _ => hb _, hn, hc⟩
  exact hby (i * C + k) (idx_lt hi hk)
theorem RMx.below {w w' : World} {r c : Int} {a : Option Addr} {len cap R C : Nat} {F : Nat → Nat → Nat} (h : RMx w r c a len cap R C F) (hb : Below w.heap.size w w') : RMx w' r c a len cap R C F :=
  ⟨h.r, h.c, h.len, h.hR, h.hC, h.m.below hb, h.bd, h.nil, h.cap⟩
theorem decide_le_t (a b : Nat) (h : a ≤ b) : decide ((a : Int) ≤ (b : Int)) = true := decide_eq_true (by omega)
end Go.Proofs.Ytkcalgolanpjaaa

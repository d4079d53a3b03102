/- What a walk is told of a matrix that came in by value. Lemmas alone. -/
import Derived.Test.YtkcalgolanpjaaaRec
import Derived.OpenShut
namespace Go.Proofs.Ytkcalgolanpjaaa
open Go.RowKit Go.ChangeShapes Go.WideShapes Go.ChangeAt Go.Deep
def IsMx (w : World) (v : Value) : Prop := ∃ (r c : Int) (a : Option Addr) (len cap : Nat) (zs : List Int), v = .agg #[.int .i64 r, .int .i64 c, .slice a len cap] ∧ (Lit.int .i64 r).wf = true ∧ (Lit.int .i64 c).wf = true ∧ IsRow .u8 w a len cap zs
theorem mx_open {H : Type} {enc : TypeId × Value → H} {W : World} {v : Value} {d : DataW H} {p : List MemPlace}
    (hv : ∃ cs, v = .agg cs ∧ cs.size = Try.prog.cellsOf 24) (h : DataW.Trod enc Try.prog W 0 (fun _ => true) true 24 v d p) : IsMx W v := by
  obtain ⟨cs, rfl, hs⟩ := hv
  obtain ⟨fuel, hf⟩ := h
  have hs3 : cs.size = 3 := by rw [hs]; kernel_rfl
  obtain ⟨xs, n, _, _, hlen, hxl, hg⟩ := DataW.trod_struct Try.underlying24 hf
  have h0 := hg 0 _ rfl
  have h1 := hg 1 _ rfl
  have h2 := hg 2 _ rfl
  obtain ⟨u0, u1, u2, rfl⟩ : ∃ u0 u1 u2, cs = #[u0, u1, u2] := by
    obtain ⟨l⟩ := cs
    match l, hs3 with
    | [x, y, z], _ => exact ⟨x, y, z, rfl⟩
  have hx3 : xs.length = 3 := by rw [hxl]; rfl
  have c0 : Try.prog.cellsOf 3 = 1 := by kernel_rfl
  have c2 : Try.prog.cellsOf 22 = 1 := by kernel_rfl
  obtain ⟨x0, hx0⟩ : ∃ x0, xs[0]? = some x0 := ⟨_, List.getElem?_eq_getElem (by omega)⟩
  obtain ⟨x1, hx1⟩ : ∃ x1, xs[1]? = some x1 := ⟨_, List.getElem?_eq_getElem (by omega)⟩
  obtain ⟨x2, hx2⟩ : ∃ x2, xs[2]? = some x2 := ⟨_, List.getElem?_eq_getElem (by omega)⟩
  rw [hx0] at h0
  rw [hx1] at h1
  rw [hx2] at h2
  have e0 : (List.drop 0 (Value.agg #[u0, u1, u2]).cells.toList).take 1 = [u0] := rfl
  have e1 : (List.drop 1 (Value.agg #[u0, u1, u2]).cells.toList).take 1 = [u1] := rfl
  have e2 : (List.drop 2 (Value.agg #[u0, u1, u2]).cells.toList).take 1 = [u2] := rfl
  have g0 : DataW.trod enc Try.prog W 0 (fun _ => true) true n 3 ((List.drop 0 (Value.agg #[u0, u1, u2]).cells.toList).take (Try.prog.cellsOf 3)) = some x0 := h0
  have g1 : DataW.trod enc Try.prog W 0 (fun _ => true) true n 3 ((List.drop 1 (Value.agg #[u0, u1, u2]).cells.toList).take (Try.prog.cellsOf 3)) = some x1 := h1
  have g2 : DataW.trod enc Try.prog W 0 (fun _ => true) true n 22 ((List.drop 2 (Value.agg #[u0, u1, u2]).cells.toList).take (Try.prog.cellsOf 22)) = some x2 := h2
  rw [c0, e0] at g0
  rw [c0, e1] at g1
  rw [c2, e2] at g2
  obtain ⟨r, hr, _, hwr⟩ := DataW.trod_int Try.underlying3 g0
  obtain ⟨c, hc, _, hwc⟩ := DataW.trod_int Try.underlying3 g1
  injection hr with hr
  injection hc with hc
  subst hr hc
  rcases open_ints Try.underlying22 Try.underlying5 (by kernel_rfl) g2 with ⟨hcs, _⟩ | ⟨x, l, k, zs, hcs, _, hl, hm, hz, _, hcell, hwz⟩
  · injection hcs with hcs
    subst hcs
    exact ⟨r, c, none, 0, 0, [], rfl, hwr, hwc, .inl ⟨rfl, rfl, rfl, rfl⟩⟩
  · injection hcs with hcs
    subst hcs
    exact ⟨r, c, some x, l, k, zs, rfl, hwr, hwc, .inr ⟨x, rfl, hl, hm, by simpa using hz, hcell, hwz⟩⟩
end Go.Proofs.Ytkcalgolanpjaaa

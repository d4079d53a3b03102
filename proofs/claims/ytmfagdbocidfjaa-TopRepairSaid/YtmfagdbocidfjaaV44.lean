import Derived.Test.YtmfagdbocidfjaaV42
import Derived.Test.YtmfagdbocidfjaaV43
import Derived.Test.YtmfagdbocidfjaaV18
import Derived.OpenShut
/- TopRepair: groups in a list, arrays of what is lost, counts. Lemmas alone. -/
namespace Go.Proofs.Ytmfagdbocidfjaa
open Go.RowKit
set_option maxRecDepth 100000 in
/-- the cells of group j of a list -/
theorem GpAt.cells {w : World} {lo gb go n k S m la : Nat} {In D cp : Nat → Nat} (h : GpAt w lo (.slice (some ⟨gb, go, none⟩) n k) n S m la In D cp) {j : Nat} (hj : j < n) :
    w.cell? ⟨gb, go + j * 5, none⟩ = some (.int .u32 (j : Nat)) ∧ w.cell? ⟨gb, go + j * 5 + 1, none⟩ = some (.int .u32 (j * S : Nat)) ∧ w.cell? ⟨gb, go + j * 5 + 2, none⟩ = some (.int .i64 (kOf S la j : Nat)) ∧ w.cell? ⟨gb, go + j * 5 + 3, none⟩ = some (.int .i64 (m : Nat)) ∧ w.cell? ⟨gb, go + j * 5 + 4, none⟩ = some (.slice (some ⟨D j, 0, none⟩) (kOf S la j + m) (cp j)) := by
  have key := fun t ht u (e : [Value.int .u32 (j : Nat), .int .u32 (j * S : Nat), .int .i64 (kOf S la j : Nat), .int .i64 (m : Nat), .slice (some ⟨D j, 0, none⟩) (kOf S la j + m) (cp j)][t]? = some u) => h.1.cells rfl (j * 5 + t) u ((gpC_get S m la D cp n j t hj ht).trans e)
  have k0 := key 0 (by omega) _ rfl
  have k1 := key 1 (by omega) _ rfl
  have k2 := key 2 (by omega) _ rfl
  have k3 := key 3 (by omega) _ rfl
  have k4 := key 4 (by omega) _ rfl
  rw [← Nat.add_assoc] at k0 k1 k2 k3 k4
  exact ⟨k0, k1, k2, k3, k4⟩
set_option maxRecDepth 100000 in
theorem OwnS.row {w : World} {lo g L c n : Nat} {V : Nat → Nat → Nat} (h : OwnS w lo (.slice (some ⟨g, 0, none⟩) L c) L n V) {i : Nat} (hi : i < L) : ∃ rg rc, w.cell? ⟨g, 0 + i, none⟩ = some (.slice (some ⟨rg, 0, none⟩) n rc) ∧ BRow w rg n (V i) := by
  obtain ⟨A, h1, h2⟩ := h
  obtain ⟨rg, rc, e, _, h3, _⟩ := h2 i hi
  rcases h1.2 with ⟨h, _⟩ | ⟨g', cap, cur, hv, hb, hg, q1, q2, q3, q4⟩
  · cases h
  · injection hv with hv
    injection hv with hv
    injection hv with hv
    subst hv
    refine ⟨rg, rc, ?_, h3⟩
    rw [Nat.zero_add, cell_of_block hg, ← e]
    have e2 : ((List.range L).map A)[i]? = some (A i) := by simp [hi]
    rw [← q4, List.getElem?_take, if_pos (by omega), Array.getElem?_toList] at e2
    exact e2
set_option maxRecDepth 100000 in
theorem inL_app (In : Nat → Nat) (A K : Nat) : inL In A ++ inL (fun t => In (A + t)) K = inL In (A + K) := by
  unfold inL
  rw [List.range_add, List.map_append, List.map_map]
  rfl
set_option maxRecDepth 100000 in
theorem inL_at {In : Nat → Nat} {K j : Nat} (h : j < K) : (inL In K)[j]? = some (.int .u16 (In j : Nat)) := by
  unfold inL
  rw [List.getElem?_map, List.getElem?_range h]
  rfl
/-- which shards are lost -/
def lostA (F : Nat → Bool) : Array Value := Array.ofFn (n := 32) (fun i => .bool (F i))
set_option maxRecDepth 100000 in
theorem lostA_get (F : Nat → Bool) {i : Nat} (h : i < 32) : (lostA F)[i]? = some (.bool (F i)) := by unfold lostA; simp [h]
set_option maxRecDepth 100000 in
theorem lostA_none : (#[.bool false, .bool false, .bool false, .bool false, .bool false, .bool false, .bool false, .bool false, .bool false, .bool false, .bool false, .bool false, .bool false, .bool false, .bool false, .bool false, .bool false, .bool false, .bool false, .bool false, .bool false, .bool false, .bool false, .bool false, .bool false, .bool false, .bool false, .bool false, .bool false, .bool false, .bool false, .bool false] : Array Value) = lostA (fun _ => false) := by unfold lostA; rfl
set_option maxRecDepth 100000 in
theorem lostA_set (F : Nat → Bool) (i : Nat) (h : i < 32) : (lostA F).setIfInBounds i (.bool true) = lostA (fun j => if j = i then true else F j) := by
  apply Array.ext_getElem?
  intro j
  rw [Array.getElem?_setIfInBounds]
  by_cases hj : j < 32
  · rw [lostA_get (fun j => if j = i then true else F j) hj]
    by_cases e : i = j
    · subst e
      rw [if_pos rfl, if_pos (by unfold lostA; simp; omega)]
      simp
    · rw [if_neg e, lostA_get _ hj, if_neg (fun h => e h.symm)]
  · have h1 : (lostA F)[j]? = none := by unfold lostA; simp; omega
    have h2 : (lostA (fun j => if j = i then true else F j))[j]? = none := by unfold lostA; simp; omega
    rw [h2, if_neg (by omega), h1]
/-- how many of the first k came -/
def nl (F : Nat → Bool) : Nat → Nat
  | 0 => 0
  | k + 1 => nl F k + (if F k = true then 0 else 1)
set_option maxRecDepth 100000 in
theorem nl_le (F : Nat → Bool) : ∀ k, nl F k ≤ k
  | 0 => Nat.le_refl _
  | k + 1 => by have := nl_le F k; unfold nl; split <;> omega
set_option maxRecDepth 100000 in
theorem nl_lost (F : Nat → Bool) (k : Nat) (h : F k = true) : nl F (k + 1) = nl F k := by rw [nl, if_pos h]; omega
set_option maxRecDepth 100000 in
theorem nl_came (F : Nat → Bool) (k : Nat) (h : F k = false) : nl F (k + 1) = nl F k + 1 := by rw [nl, h]; simp
set_option maxRecDepth 100000 in
/-- one more is lost: one fewer comes, at most -/
theorem nl_set (F : Nat → Bool) (i : Nat) : ∀ k, nl F k ≤ nl (fun j => if j = i then true else F j) k + (if i < k then 1 else 0)
  | 0 => by simp [nl]
  | k + 1 => by
    have h := nl_set F i k
    unfold nl
    by_cases e : k = i
    · subst e
      rw [if_neg (Nat.lt_irrefl k)] at h
      simp only [if_true]
      rw [if_pos (Nat.lt_succ_self k)]
      split <;> omega
    · simp only [if_neg e]
      by_cases h2 : i < k
      · rw [if_pos h2] at h
        have e1 : (if i < k + 1 then 1 else 0) = 1 := if_pos (by omega)
        rw [e1]
        omega
      · rw [if_neg h2] at h
        have e1 : (if i < k + 1 then 1 else 0) = 0 := if_neg (by omega)
        rw [e1]
        omega
set_option maxRecDepth 100000 in
theorem nl_none : ∀ k, nl (fun _ => false) k = k
  | 0 => rfl
  | k + 1 => by rw [nl, nl_none k]; simp
set_option maxRecDepth 100000 in
theorem tmod_bd (x : Int) (k : Nat) (h : 0 < k) : -(k : Int) < x.tmod (k : Int) ∧ x.tmod (k : Int) < k := by
  have h1 := Int.natAbs_tmod x (k : Int)
  have h2 := Nat.mod_lt x.natAbs (show 0 < (k : Int).natAbs by omega)
  rw [← h1] at h2
  omega
set_option maxRecDepth 100000 in
theorem kOf_fr (S la i : Nat) (h : i * S < la) : i * S + kOf S la i = min ((i + 1) * S) la := by
  unfold kOf
  rw [Nat.succ_mul]
  omega
end Go.Proofs.Ytmfagdbocidfjaa

/- What a walk is told of what is sent, that came in by value. Lemmas alone. -/
namespace Go.Proofs.Ytmfagdbocidfjaa
open Go.RowKit Go.ChangeShapes Go.WideShapes Go.ChangeAt Go.Deep
def IsSent (w : World) (v : Value) : Prop := ∃ (a : Option Addr) (la ca : Nat) (za : List Int) (S P : Int) (b : Option Addr) (lb cb : Nat) (zb : List Int), v = .agg #[.slice a la ca, .int .i64 S, .int .i64 P, .slice b lb cb] ∧ IsRow .u16 w a la ca za ∧ (Lit.int .i64 S).wf = true ∧ (Lit.int .i64 P).wf = true ∧ IsRow .i64 w b lb cb zb
set_option maxRecDepth 100000 in
theorem sent_open {H : Type} {enc : TypeId × Value → H} {W : World} {v : Value} {d : DataW H} {p : List MemPlace}
    (hv : ∃ cs, v = .agg cs ∧ cs.size = Try.prog.cellsOf 57) (h : DataW.Trod enc Try.prog W 0 (fun _ => true) true 57 v d p) : IsSent W v := by
  obtain ⟨cs, rfl, hs⟩ := hv
  obtain ⟨fuel, hf⟩ := h
  have hs3 : cs.size = 4 := by rw [hs]; kernel_rfl
  obtain ⟨xs, n, _, _, hlen, hxl, hg⟩ := DataW.trod_struct Try.underlying57 hf
  have h0 := hg 0 _ rfl
  have h1 := hg 1 _ rfl
  have h2 := hg 2 _ rfl
  have h3 := hg 3 _ rfl
  obtain ⟨u0, u1, u2, u3, rfl⟩ : ∃ u0 u1 u2 u3, cs = #[u0, u1, u2, u3] := by
    obtain ⟨l⟩ := cs
    match l, hs3 with
    | [x, y, z, u], _ => exact ⟨x, y, z, u, rfl⟩
  have hx3 : xs.length = 4 := by rw [hxl]; rfl
  have c0 : Try.prog.cellsOf 31 = 1 := by kernel_rfl
  have c1 : Try.prog.cellsOf 3 = 1 := by kernel_rfl
  have c3 : Try.prog.cellsOf 55 = 1 := by kernel_rfl
  obtain ⟨x0, hx0⟩ : ∃ x0, xs[0]? = some x0 := ⟨_, List.getElem?_eq_getElem (by omega)⟩
  obtain ⟨x1, hx1⟩ : ∃ x1, xs[1]? = some x1 := ⟨_, List.getElem?_eq_getElem (by omega)⟩
  obtain ⟨x2, hx2⟩ : ∃ x2, xs[2]? = some x2 := ⟨_, List.getElem?_eq_getElem (by omega)⟩
  obtain ⟨x3, hx3'⟩ : ∃ x3, xs[3]? = some x3 := ⟨_, List.getElem?_eq_getElem (by omega)⟩
  rw [hx0] at h0
  rw [hx1] at h1
  rw [hx2] at h2
  rw [hx3'] at h3
  have e0 : (List.drop 0 (Value.agg #[u0, u1, u2, u3]).cells.toList).take 1 = [u0] := rfl
  have e1 : (List.drop 1 (Value.agg #[u0, u1, u2, u3]).cells.toList).take 1 = [u1] := rfl
  have e2 : (List.drop 2 (Value.agg #[u0, u1, u2, u3]).cells.toList).take 1 = [u2] := rfl
  have e3 : (List.drop 3 (Value.agg #[u0, u1, u2, u3]).cells.toList).take 1 = [u3] := rfl
  have g0 : DataW.trod enc Try.prog W 0 (fun _ => true) true n 31 ((List.drop 0 (Value.agg #[u0, u1, u2, u3]).cells.toList).take (Try.prog.cellsOf 31)) = some x0 := h0
  have g1 : DataW.trod enc Try.prog W 0 (fun _ => true) true n 3 ((List.drop 1 (Value.agg #[u0, u1, u2, u3]).cells.toList).take (Try.prog.cellsOf 3)) = some x1 := h1
  have g2 : DataW.trod enc Try.prog W 0 (fun _ => true) true n 3 ((List.drop 2 (Value.agg #[u0, u1, u2, u3]).cells.toList).take (Try.prog.cellsOf 3)) = some x2 := h2
  have g3 : DataW.trod enc Try.prog W 0 (fun _ => true) true n 55 ((List.drop 3 (Value.agg #[u0, u1, u2, u3]).cells.toList).take (Try.prog.cellsOf 55)) = some x3 := h3
  rw [c0, e0] at g0
  rw [c1, e1] at g1
  rw [c1, e2] at g2
  rw [c3, e3] at g3
  obtain ⟨r, hr, _, hwr⟩ := DataW.trod_int Try.underlying3 g1
  obtain ⟨c, hc, _, hwc⟩ := DataW.trod_int Try.underlying3 g2
  injection hr with hr
  injection hc with hc
  subst hr hc
  have key0 : ∃ a la ca za, u0 = .slice a la ca ∧ IsRow .u16 W a la ca za := by
    rcases open_ints Try.underlying31 Try.underlying34 (by kernel_rfl) g0 with ⟨hcs, _⟩ | ⟨x, l, k, zs, hcs, _, hl, hm, hz, _, hcell, hwz⟩
    · injection hcs with hcs
      exact ⟨none, 0, 0, [], hcs, .inl ⟨rfl, rfl, rfl, rfl⟩⟩
    · injection hcs with hcs
      exact ⟨some x, l, k, zs, hcs, .inr ⟨x, rfl, hl, hm, by simpa using hz, hcell, hwz⟩⟩
  have key3 : ∃ a la ca za, u3 = .slice a la ca ∧ IsRow .i64 W a la ca za := by
    rcases open_ints Try.underlying55 Try.underlying3 (by kernel_rfl) g3 with ⟨hcs, _⟩ | ⟨x, l, k, zs, hcs, _, hl, hm, hz, _, hcell, hwz⟩
    · injection hcs with hcs
      exact ⟨none, 0, 0, [], hcs, .inl ⟨rfl, rfl, rfl, rfl⟩⟩
    · injection hcs with hcs
      exact ⟨some x, l, k, zs, hcs, .inr ⟨x, rfl, hl, hm, by simpa using hz, hcell, hwz⟩⟩
  obtain ⟨a, la, ca, za, rfl, ha⟩ := key0
  obtain ⟨b, lb, cb, zb, rfl, hb⟩ := key3
  exact ⟨a, la, ca, za, r, c, b, lb, cb, zb, rfl, ha, hwr, hwc, hb⟩
end Go.Proofs.Ytmfagdbocidfjaa

import Derived.Test.YtipfoclmdbbjiaaU12
import Derived.Test.YtipfoclmdbbjiaaU28
/- What a walk is told of a slice of slices of bytes that came in. Lemmas alone. -/
namespace Go.Proofs.Ytipfoclmdbbjiaa
open Go.RowKit Go.ChangeShapes Go.WideShapes Go.ChangeAt Go.Deep
/-- each element is a slice of bytes -/
def IsRows (w : World) (a : Option Addr) (len cap : Nat) : Prop :=
  ∃ (A : Nat → Option Addr) (L K : Nat → Nat) (Z : Nat → List Int),
    (∀ i, i < len → ∃ b off, a = some ⟨b, off, none⟩ ∧ w.cell? ⟨b, off + i, none⟩ = some (.slice (A i) (L i) (K i)) ∧ IsRow .u8 w (A i) (L i) (K i) (Z i)) ∧
    len ≤ cap ∧ cap ≤ maxLen ∧ (a = none → len = 0 ∧ cap = 0)
set_option maxRecDepth 100000 in
theorem isRows_one {H : Type} {enc : TypeId × Value → H} {P : Program} {W : World} {e b : TypeId} {n : Nat} {v : Value} {x : DataW H × List MemPlace}
    (he : P.underlying e = some (.slice b)) (hb : P.underlying b = some (.int .u8)) (hc : P.cellsOf b = 1)
    (h : DataW.trod enc P W 0 (fun _ => true) true n e [v] = some x) : ∃ a l c z, v = .slice a l c ∧ IsRow .u8 W a l c z := by
  rcases open_ints he hb hc h with ⟨hcs, _⟩ | ⟨x, l, c, zs, hcs, _, hl, hm, hz, _, hcell, hwz⟩
  · injection hcs with hcs
    subst hcs
    exact ⟨none, 0, 0, [], rfl, .inl ⟨rfl, rfl, rfl, rfl⟩⟩
  · injection hcs with hcs
    subst hcs
    exact ⟨some x, l, c, zs, rfl, .inr ⟨x, rfl, hl, hm, by simpa using hz, hcell, hwz⟩⟩
set_option maxRecDepth 100000 in
theorem isRows_open {H : Type} {enc : TypeId × Value → H} {P : Program} {W : World} {t e b : TypeId} {a : Option Addr} {len cap : Nat} {d : DataW H} {p : List MemPlace}
    (ht : P.underlying t = some (.slice e)) (he : P.underlying e = some (.slice b)) (hb : P.underlying b = some (.int .u8)) (hce : P.cellsOf e = 1) (hc : P.cellsOf b = 1)
    (h : DataW.Trod enc P W 0 (fun _ => true) true t (.slice a len cap) d p) : IsRows W a len cap := by
  obtain ⟨fuel, hf⟩ := h
  rcases open_slice1 ht hce hf with ⟨hcs, _⟩ | ⟨x, l, c, m, n, V, D, Pl, hcs, _, hl, hm, hmm, _, hi⟩
  · simp [Value.cells] at hcs
    obtain ⟨rfl, rfl, rfl⟩ := hcs
    exact ⟨fun _ => none, fun _ => 0, fun _ => 0, fun _ => [], fun i hi => absurd hi (by omega), Nat.le_refl _, by unfold maxLen; omega, fun _ => ⟨rfl, rfl⟩⟩
  · simp [Value.cells] at hcs
    obtain ⟨rfl, rfl, rfl⟩ := hcs
    simp only [if_true] at hmm
    subst hmm
    have key : ∀ i, i < len → ∃ (y : Option Addr × Nat × Nat × List Int), V i = .slice y.1 y.2.1 y.2.2.1 ∧ IsRow .u8 W y.1 y.2.1 y.2.2.1 y.2.2.2 := fun i hil => by
      obtain ⟨a, l, c, z, h1, h2⟩ := isRows_one he hb hc (hi i (by omega)).2
      exact ⟨(a, l, c, z), h1, h2⟩
    obtain ⟨Y, hY⟩ := choose_lt (α := Option Addr × Nat × Nat × List Int) key
    refine ⟨fun i => (Y i).1, fun i => (Y i).2.1, fun i => (Y i).2.2.1, fun i => (Y i).2.2.2, fun i hil => ?_, hl, hm, fun e => by cases e⟩
    obtain ⟨h1, h2⟩ := hY i hil
    have hcell := (hi i (by omega)).1
    rw [h1] at hcell
    have hspot : x.spot = none := by
      have h0 := (hi 0 (by omega)).1
      simpa [Addr.add] using World.cell?_spot h0
    obtain ⟨b, off, spot⟩ := x
    simp only at hspot
    subst hspot
    rw [add_none] at hcell
    exact ⟨b, off, rfl, hcell, h2⟩
end Go.Proofs.Ytipfoclmdbbjiaa

/- group.Inputs. Conditions: what the shards read as. -/
namespace Go.Proofs.Ytipfoclmdbbjiaa
open Go.RowKit
/-- rows of bytes, as lists -/
def ShAt (w : World) (s : Option Addr) (m : Nat) (G : Nat → List Nat) : Prop := ∀ i, i < m → ∃ b off a k, s = some ⟨b, off, none⟩ ∧ w.cell? ⟨b, off + i, none⟩ = some (.slice a (G i).length k) ∧ SlN .u8 w a (G i) ∧ (∀ x ∈ G i, x < 256) ∧ (G i).length ≤ k ∧ k ≤ maxLen
set_option maxRecDepth 100000 in
theorem slN_below {w w' : World} {a : Option Addr} {l : List Nat} (h : SlN .u8 w a l) (hb : Below w.heap.size w w') : SlN .u8 w' a l := by
  intro i x hx
  obtain ⟨b, off, hs, hc⟩ := h i x hx
  exact ⟨b, off, hs, (hb.cell (p := ⟨b, off + i, none⟩) (cell_block_lt hc)).trans hc⟩
set_option maxRecDepth 100000 in
theorem ShAt.below {w w' : World} {s : Option Addr} {m : Nat} {G : Nat → List Nat} (h : ShAt w s m G) (hb : Below w.heap.size w w') : ShAt w' s m G := fun i hi => by
  obtain ⟨b, off, a, k, hs, hc, h1, h2⟩ := h i hi
  exact ⟨b, off, a, k, hs, (hb.cell (p := ⟨b, off + i, none⟩) (cell_block_lt hc)).trans hc, slN_below h1 hb, h2⟩
set_option maxRecDepth 100000 in
theorem sh_open {w : World} {a : Option Addr} {len cap : Nat} (h : IsRows w a len cap) : ∃ G, ShAt w a len G := by
  obtain ⟨A, L, K, Z, h1, _, _, _⟩ := h
  have key : ∀ i, i < len → ∃ l : List Nat, l.length = L i ∧ L i ≤ K i ∧ K i ≤ maxLen ∧ (∀ x ∈ l, x < 256) ∧ SlN .u8 w (A i) l := fun i hi => by
    obtain ⟨b, off, hs, hc, hr⟩ := h1 i hi
    exact isRow_nat hr 256 (fun n hn => by
      have : 0 ≤ n ∧ n ≤ 255 := by simpa [Lit.wf, IntKind.min, IntKind.max, IntKind.signed, IntKind.bits] using hn
      omega)
  obtain ⟨G, hG⟩ := Go.Deep.choose_lt (α := List Nat) key
  refine ⟨G, fun i hi => ?_⟩
  obtain ⟨b, off, hs, hc, hr⟩ := h1 i hi
  obtain ⟨e1, e2, e3, e4, e5⟩ := hG i hi
  exact ⟨b, off, A i, K i, hs, by rw [e1]; exact hc, e5, e4, by rw [e1]; exact e2, e3⟩
def inW (G : Nat → List Nat) (i : Nat) : Nat := getN ((G i).take 8)
set_option maxRecDepth 100000 in
theorem inW_lt {l : List Nat} (h : l.length = 2) (hb : ∀ x ∈ l, x < 256) : getN (l.take 8) < 65536 := by
  have e : l.take 8 = l.take 2 := by rw [List.take_of_length_le (by omega), List.take_of_length_le (by omega)]
  rw [e]
  exact getN_lt l hb 2
def InPost (W : World) (m q : Nat) (G : Nat → List Nat) (e : Ending) (W' : World) : Prop :=
  (q = m ∧ ∃ v, e = .returned (.tuple #[v, .bool true]) ∧ OwnZ W' W.heap.size 39 .u16 v m (fun i => (inW G i : Nat)) ∧ Below W.heap.size W W') ∨ (q < m ∧ e = .returned (.tuple #[.slice none 0 0, .bool false]) ∧ Below W.heap.size W W')
set_option maxRecDepth 100000 in
theorem bne_two (n : Nat) (h : n ≠ 2) : (((n : Nat) : Int) != 2) = true := by simp; omega
attribute [local irreducible] getN
set_option maxRecDepth 100000 in
set_option maxHeartbeats 2000000 in
theorem s_inputs (m q : Nat) (s : Option Addr) (cap : Nat) (G : Nat → List Nat) (w : World) (hs : ShAt w s m G) (hq : q ≤ m) (hm : m ≤ 90000000) (hg : ∀ i, i < q → (G i).length = 2) (hbad : q < m → (G q).length ≠ 2) :
    Calls Try.prog 19 #[.slice s m cap] w (InPost w m q G) := by
  have hsh := Lib.hid hs
  have hgh := Lib.hid hg
  have hbadh := Lib.hid hbad
  clear hs hg hbad
  go_enter Try.func19, Try.ntmps19
  go_upto_region 3 with (fail)
  go_loopw [4, 9] (fun v4 v9 wr => ∃ i : Nat, i ≤ q ∧ v9 = .int .i64 (i : Nat) ∧ Hid (OwnZ wr w.heap.size 39 .u16 v4 i (fun i => (inW G i : Nat))) ∧ Hid (Below w.heap.size w wr)) (fun _ v9 _ => m - (intOf v9).toNat)
  case atStart => exact ⟨0, by omega, rfl, hide (OwnZ.nil _ _ _ _ _), hide (Below.refl _ _)⟩
  case round =>
    obtain ⟨i, hi, rfl, ho, hB⟩ := hrel
    have hsz := hB.out.size
    by_cases him : i < m
    · have i1 : (i : Int) < (m : Int) := by omega
      obtain ⟨b, off, a, k, rfl, hc, hl, hbd, hk1, hk2⟩ := hsh.out i him
      have hc2 := (hB.out.cell (p := ⟨b, off + i, none⟩) (cell_block_lt hc)).trans hc
      have hlh := Lib.hid (slN_below hl hB.out)
      have hbdh := Lib.hid hbd
      by_cases hiq : i < q
      · have hl2 := hgh.out i hiq
        have hxlt := inW_lt hl2 hbd
        have hwx : IntKind.u16.wrap ((getN ((G i).take 8) : Nat) : Int) = ((getN ((G i).take 8) : Nat) : Int) := by rw [IntKind.wrap_u16]; omega
        have kget := Lib.hid (w_get a k (G i) wr hlh.out hbdh.out hk1 (by unfold maxLen at hk2; omega))
        have hwi : Hid (inW G i = getN ((G i).take 8)) := hide rfl
        rw [hl2] at hc2 hk1 kget
        obtain ⟨X, hX⟩ : ∃ X, getN ((G i).take 8) = X := ⟨_, rfl⟩
        rw [hX] at hxlt hwx kget hwi
        have hcg : Hid (∀ j, j < i + 1 → (if j = i then (X : Int) else ((inW G j : Nat) : Int)) = ((inW G j : Nat) : Int)) := hide (fun j hj => by
          by_cases e : j = i
          · rw [if_pos e, e, hwi.out]
          · rw [if_neg e])
        clear hc hl hbd hX hl2
        go_wp2_with fail
        refine kget.out.mono ?_
        rintro e w2 ⟨rfl, rfl⟩
        clear hc2
        go_wp2_with (at_builtin; refine wpList_snocZ2 Try.underlying35 infoIn (by decide) rfl (.tmp 16) (.tmp 20) rfl wr _ w.heap.size i (fun i => (inW G i : Nat)) (X : Nat) rfl rfl rfl ho.out (by omega) hsz ?_; intro v' w6 ho6 hgr hb6; have hO6 := Lib.hid (ho6.congr hcg.out); have hL6 := Lib.hid (below_grown hB.out (Nat.le_refl _) hgr (fun b hb => (ho.out.lt b hb).1)); clear ho6 hgr hb6)
        go_roundw
        case rel => exact ⟨i + 1, by omega, by go_num, hO6, hL6⟩
        case measure => simp [intOf]; omega
      · obtain rfl : i = q := by omega
        have hl2 := bne_two _ (hbadh.out him)
        clear hc hl hbd
        go_wp2_with fail
        go_ret2
        exact .inr ⟨him, rfl, hB.out⟩
    · obtain rfl : q = m := by omega
      obtain rfl : i = q := by omega
      have i1 : decide ((i : Int) < (i : Int)) = false := by simp
      go_wp2_with fail
      go_ret2
      exact .inl ⟨rfl, _, rfl, ho.out, hB.out⟩
end Go.Proofs.Ytipfoclmdbbjiaa

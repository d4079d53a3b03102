/- What a walk is told of a slice of structs that came in, some of whose fields are slices: each element's cells hold values of their kinds. Lemmas alone. -/
import Derived.Test.YtdpngimcmohmaaaAid
import Derived.Deep.Slices
import Derived.Deep.Fields
import Derived.ChangeSame
namespace Go.Proofs.Ytdpngimcmohmaaa
open Go.RowKit Go.ChangeShapes Go.WideShapes Go.ChangeAt Go.Deep
/-- a cell's kind -/
inductive Kd where
  | i (k : IntKind)
  | b
  | s
/-- a value of it -/
def KOk : Kd → Value → Prop
  | .i k, v => ∃ n, v = .int k n ∧ (Lit.int k n).wf = true
  | .b, v => ∃ b, v = .bool b
  | .s, v => ∃ a l c, v = .slice a l c
set_option maxRecDepth 100000 in
theorem KOk.int {k : IntKind} {v : Value} (h : KOk (.i k) v) : ∃ n, v = .int k n ∧ (Lit.int k n).wf = true := h
set_option maxRecDepth 100000 in
theorem KOk.slice {v : Value} (h : KOk .s v) : ∃ a l c, v = .slice a l c := h
/-- the cells of a type, one by one, are of these kinds -/
def FlatK (P : Program) (t : TypeId) (ks : List Kd) : Prop :=
  ∀ (H : Type) (enc : TypeId × Value → H) (w : World) (base : Nat) (spare : Nat → Bool) (held : Bool) (fuel : Nat) (cs : List Value) (x : DataW H × List MemPlace),
    DataW.trod enc P w base spare held fuel t cs = some x → ∀ (j : Nat) (k : Kd), ks[j]? = some k → ∃ v : Value, cs[j]? = some v ∧ KOk k v
set_option maxRecDepth 100000 in
theorem flatK_int {P : Program} {t : TypeId} {k : IntKind} (h : P.underlying t = some (.int k)) : FlatK P t [.i k] := by
  intro H enc w base spare held fuel cs x hx j k' hj
  obtain ⟨n, rfl, _, hw⟩ := DataW.trod_int h hx
  cases j with
  | zero =>
    injection hj with hj
    subst hj
    exact ⟨_, rfl, n, rfl, hw⟩
  | succ j => simp at hj
set_option maxRecDepth 100000 in
theorem flatK_bool {P : Program} {t : TypeId} (h : P.underlying t = some .bool) : FlatK P t [.b] := by
  intro H enc w base spare held fuel cs x hx j k' hj
  obtain ⟨b, rfl, _⟩ := DataW.trod_bool h hx
  cases j with
  | zero =>
    injection hj with hj
    subst hj
    exact ⟨_, rfl, b, rfl⟩
  | succ j => simp at hj
set_option maxRecDepth 100000 in
theorem flatK_slice {P : Program} {t e : TypeId} (h : P.underlying t = some (.slice e)) : FlatK P t [.s] := by
  intro H enc w base spare held fuel cs x hx j k' hj
  cases j with
  | zero =>
    injection hj with hj
    subst hj
    rcases open_slice h hx with ⟨rfl, _⟩ | ⟨a, l, c, m, n, D, Pl, rfl, _⟩
    · exact ⟨_, rfl, none, 0, 0, rfl⟩
    · exact ⟨_, rfl, some a, l, c, rfl⟩
  | succ j => simp at hj
set_option maxRecDepth 100000 in
theorem flatK_struct {P : Program} {t : TypeId} {fs : Array Field} {ks : List Kd} (hu : P.underlying t = some (.struct fs))
    (hf : ∀ (j : Nat) (k : Kd), ks[j]? = some k → ∃ (i : Nat) (f : Field) (ks' : List Kd) (j' : Nat), fs[i]? = some f ∧ j = f.offset + j' ∧ ks'[j']? = some k ∧ j' < P.cellsOf f.type ∧ FlatK P f.type ks') : FlatK P t ks := by
  intro H enc w base spare held fuel cs x hx j k hj
  obtain ⟨i, f, ks', j', hi, rfl, hk, hlt, hfl⟩ := hf j k hj
  obtain ⟨xs, n, _, _, hlen, hxl, hg⟩ := DataW.trod_struct hu hx
  have h1 := hg i f hi
  have hil : i < xs.length := by rw [hxl]; exact (Array.getElem?_eq_some_iff.1 hi).1
  rw [List.getElem?_eq_getElem hil] at h1
  obtain ⟨v, hv, hok⟩ := hfl H enc w base spare held n _ _ h1 j' k hk
  refine ⟨v, ?_, hok⟩
  rw [List.getElem?_take, if_pos hlt, List.getElem?_drop] at hv
  exact hv
def IsRecK (ks : List Kd) (w : World) (a : Option Addr) (len cap : Nat) : Prop :=
  ∃ f : Nat → Nat → Value, (∀ (i j : Nat) (k : Kd), i < len → ks[j]? = some k → KOk k (f i j)) ∧
    (∀ i : Nat, i < len → ∃ b off : Nat, a = some ⟨b, off, none⟩ ∧ ∀ j : Nat, j < ks.length → w.cell? ⟨b, off + (i * ks.length + j), none⟩ = some (f i j)) ∧
    len ≤ cap ∧ cap ≤ maxLen ∧ (a = none → len = 0 ∧ cap = 0)
set_option maxRecDepth 100000 in
theorem isRecK_open {H : Type} {enc : TypeId × Value → H} {P : Program} {W : World} {t e : TypeId} {ks : List Kd} {a : Option Addr} {len cap : Nat} {d : DataW H} {p : List MemPlace}
    (ht : P.underlying t = some (.slice e)) (hF : FlatK P e ks) (hC : P.cellsOf e = ks.length) (h0 : 0 < ks.length)
    (h : DataW.Trod enc P W 0 (fun _ => true) true t (.slice a len cap) d p) : IsRecK ks W a len cap := by
  obtain ⟨fuel, hf⟩ := h
  rcases open_slice ht hf with ⟨hcs, _⟩ | ⟨x, l, c, m, n, D, Pl, hcs, _, hl, hm, hmm, _, hi⟩
  · simp [Value.cells] at hcs
    obtain ⟨rfl, rfl, rfl⟩ := hcs
    exact ⟨fun _ _ => .bool false, fun i j k hi => absurd hi (by omega), fun i hi => absurd hi (by omega), Nat.le_refl _, by unfold maxLen; omega, fun _ => ⟨rfl, rfl⟩⟩
  · simp [Value.cells] at hcs
    obtain ⟨rfl, rfl, rfl⟩ := hcs
    simp only [if_true] at hmm
    subst hmm
    rw [hC] at hi
    have key : ∀ i : Nat, i < len → ∀ (j : Nat) (k : Kd), ks[j]? = some k → ∃ v : Value, KOk k v ∧ W.cell? (x.add (i * ks.length + j)) = some v := by
      intro i hil j k hk
      obtain ⟨cs', hc, ht'⟩ := hi i (by omega)
      obtain ⟨_, hcl, hat⟩ := World.cells?_some hc
      obtain ⟨v, hv, hok⟩ := hF H enc W 0 _ true n cs' _ ht' j k hk
      have hj : j < ks.length := (List.getElem?_eq_some_iff.1 hk).1
      refine ⟨v, hok, ?_⟩
      rw [← Go.Deep.add_add, hat j hj, hv]
    have hne : ∀ i, i < len → ∃ b off, x = ⟨b, off, none⟩ := by
      intro i hil
      obtain ⟨v, _, hc⟩ := key i hil 0 _ (List.getElem?_eq_getElem h0)
      obtain ⟨b, off, spot⟩ := x
      have hspot : spot = none := by
        by_cases hz : i * ks.length + 0 = 0
        · rw [hz] at hc; simpa [Addr.add] using World.cell?_spot hc
        · have := World.cell?_spot hc
          unfold Addr.add at hc
          by_cases hs : spot = none
          · exact hs
          · exfalso
            obtain ⟨v0, _, hc0⟩ := key 0 (by omega) 0 _ (List.getElem?_eq_getElem h0)
            have := World.cell?_spot hc0
            simp [Addr.add] at this
            exact hs this
      subst hspot
      exact ⟨b, off, rfl⟩
    refine ⟨fun i j => (W.cell? (x.add (i * ks.length + j))).getD (.bool false), ?_, ?_, hl, hm, fun e => by cases e⟩
    · intro i j k hil hk
      obtain ⟨v, hok, hc⟩ := key i hil j k hk
      simp only [hc, Option.getD_some]
      exact hok
    · intro i hil
      obtain ⟨b, off, rfl⟩ := hne i hil
      refine ⟨b, off, rfl, fun j hj => ?_⟩
      obtain ⟨v, _, hc⟩ := key i hil j _ (List.getElem?_eq_getElem hj)
      rw [← add_none]
      simp only [hc, Option.getD_some]
end Go.Proofs.Ytdpngimcmohmaaa

import Derived.Test.YtmfagdbocidfjaaV17
import Derived.Test.YtmfagdbocidfjaaV01
import Derived.Deep.Slices
import Derived.Deep.Fields
import Derived.ChangeSame
import Derived.OpenShut
/- The law's awake of layer 5. -/
namespace Go.Proofs.Ytmfagdbocidfjaa
open Go.RowKit
set_option maxRecDepth 100000 in
theorem aw_piv : ∀ j, j < 2 → pvF (ivS idF 2 j).1 j 2 j < 2 := by decide +kernel
set_option maxRecDepth 100000 in
theorem aw_inv : ∀ r, r < 2 → ∀ c, c < 2 → (ivS idF 2 2).2 r c = idF r c := by decide +kernel
def awP (j : Nat) : Nat := [1, 0, 1, 1, 1, 2].getD j 0
set_option maxRecDepth 100000 in
theorem aw_pow : ∀ j, j < 6 → flF 2 pwF j = awP j := by decide +kernel
set_option maxRecDepth 100000 in
theorem m_id2 (w : World) : Calls Try.prog 120 #[.int .i64 2] w (fun e w' => ∃ g, e = .returned (.tuple #[.agg #[.int .i64 2, .int .i64 2, .slice (some ⟨g, 0, none⟩) 4 4], .int .i64 0]) ∧ w.heap.size ≤ g ∧ MRow w' g 2 2 idF ∧ Below w.heap.size w w') := m_identity 2 w (by omega)
set_option maxRecDepth 100000 in
theorem m_iv2 (p g : Nat) (w : World) (hp : IsGf w p) (hm : MRow w g 2 2 idF) :
    Calls Try.prog 100 #[.pointer (some ⟨p, 0, none⟩), .agg #[.int .i64 2, .int .i64 2, .slice (some ⟨g, 0, none⟩) 4 4]] w (fun e w' => ∃ h, e = .returned (.tuple #[.agg #[.int .i64 2, .int .i64 2, .slice (some ⟨h, 0, none⟩) 4 4], .int .i64 0]) ∧ By w' (some ⟨h, 0, none⟩) 4 (flF 2 idF) ∧ Below w.heap.size w w') := by
  refine (m_invert p 2 (some ⟨g, 0, none⟩) 4 idF w hp hm.mat (fun e => by cases e) id_bd (by omega)).mono fun e w' h => ?_
  obtain ⟨q, he, _, hr, hb⟩ := h.1 aw_piv
  exact ⟨q, he, (hr.congr (fun r c h1 h2 => aw_inv r h1 c h2)).mat.by, hb⟩
set_option maxRecDepth 100000 in
theorem m_pw32 (p : Nat) (w : World) (hp : IsGf w p) :
    Calls Try.prog 97 #[.pointer (some ⟨p, 0, none⟩), .int .i64 3, .int .i64 2] w (fun e w' => ∃ h, e = .returned (.tuple #[.agg #[.int .i64 3, .int .i64 2, .slice (some ⟨h, 0, none⟩) 6 6], .int .i64 0]) ∧ By w' (some ⟨h, 0, none⟩) 6 awP ∧ Below w.heap.size w w') := by
  refine (m_powers p 3 2 w hp (by omega) (by omega)).mono fun e w' h => ?_
  obtain ⟨q, he, _, hr, hb⟩ := h
  exact ⟨q, he, hr.mat.by.congr aw_pow, hb⟩
set_option maxRecDepth 100000 in
theorem aw_lit (w : World) : SlN .u8 (w.alloc (.cells #[.int .u8 1, .int .u8 0, .int .u8 1, .int .u8 1, .int .u8 1, .int .u8 2] 5)) (some ⟨w.heap.size, 0, none⟩) [1, 0, 1, 1, 1, 2] := SlN.lit .u8 _ (last_block0 w _ _ rfl) rfl
set_option maxRecDepth 100000 in
theorem aw_sl {w : World} {s : Option Addr} (h : By w s 6 awP) : SlN .u8 w s [1, 0, 1, 1, 1, 2] := h.sl
set_option maxRecDepth 100000 in
theorem gf_new_below (w : World) : Calls Try.prog 21 #[] w (fun e w' => e = .returned (.pointer (some ⟨w.heap.size, 0, none⟩)) ∧ IsGf w' w.heap.size ∧ Below w.heap.size w w') :=
  (gf_new w).mono fun e w' h => by
    obtain ⟨he, n, rfl⟩ := h
    exact ⟨he, IsGf.made w n, below_drewN (below_one w _) n⟩
attribute [local irreducible] gexp gtbl glog rmul rinv rpow zexp mixF blk wLoad wLoadRes loadAns wStore wStoreRes storeAns Plain flF BRow MRow IsGf MAt By
attribute [local go_sem ↓] ld_m0 sto_m0
attribute [local go_sem] ld_m sto_m loadAns_some storeAns_some mx_size mx_plain blk_alloc_if blk_setRow_if blk_drew_at blk_drewN_at rowPut_some blk_setCell_if cellPut_some
end Go.Proofs.Ytmfagdbocidfjaa

/- What a walk is told of a slice of structs that came in: each element's cells hold values of their kinds. Lemmas alone. -/
namespace Go.Proofs.Ytmfagdbocidfjaa
open Go.RowKit Go.ChangeShapes Go.WideShapes Go.ChangeAt Go.Deep
/-- a cell's kind: an integer's, or (none) a bool's; a value of it -/
def FOk : Option IntKind → Value → Prop
  | some k, v => ∃ n, v = .int k n ∧ (Lit.int k n).wf = true
  | none, v => ∃ b, v = .bool b
set_option maxRecDepth 100000 in
theorem FOk.int {k : IntKind} {v : Value} (h : FOk (some k) v) : ∃ n, v = .int k n ∧ (Lit.int k n).wf = true := h
set_option maxRecDepth 100000 in
theorem FOk.bool {v : Value} (h : FOk none v) : ∃ b, v = .bool b := h
/-- the cells of a type, one by one, are of these kinds -/
def Flat (P : Program) (t : TypeId) (ks : List (Option IntKind)) : Prop :=
  ∀ (H : Type) (enc : TypeId × Value → H) (w : World) (base : Nat) (spare : Nat → Bool) (held : Bool) (fuel : Nat) (cs : List Value) (x : DataW H × List MemPlace),
    DataW.trod enc P w base spare held fuel t cs = some x → ∀ (j : Nat) (k : Option IntKind), ks[j]? = some k → ∃ v : Value, cs[j]? = some v ∧ FOk k v
set_option maxRecDepth 100000 in
theorem flat_int {P : Program} {t : TypeId} {k : IntKind} (h : P.underlying t = some (.int k)) : Flat P t [some k] := by
  intro H enc w base spare held fuel cs x hx j k' hj
  obtain ⟨n, rfl, _, hw⟩ := DataW.trod_int h hx
  cases j with
  | zero =>
    injection hj with hj
    subst hj
    exact ⟨_, rfl, n, rfl, hw⟩
  | succ j => simp at hj
set_option maxRecDepth 100000 in
theorem flat_bool {P : Program} {t : TypeId} (h : P.underlying t = some .bool) : Flat P t [none] := by
  intro H enc w base spare held fuel cs x hx j k' hj
  obtain ⟨b, rfl, _⟩ := DataW.trod_bool h hx
  cases j with
  | zero =>
    injection hj with hj
    subst hj
    exact ⟨_, rfl, b, rfl⟩
  | succ j => simp at hj
set_option maxRecDepth 100000 in
theorem flat_struct {P : Program} {t : TypeId} {fs : Array Field} {ks : List (Option IntKind)} (hu : P.underlying t = some (.struct fs))
    (hf : ∀ (j : Nat) (k : Option IntKind), ks[j]? = some k → ∃ (i : Nat) (f : Field) (ks' : List (Option IntKind)) (j' : Nat), fs[i]? = some f ∧ j = f.offset + j' ∧ ks'[j']? = some k ∧ j' < P.cellsOf f.type ∧ Flat P f.type ks') : Flat P t ks := by
  intro H enc w base spare held fuel cs x hx j k hj
  obtain ⟨i, f, ks', j', hi, rfl, hk, hlt, hfl⟩ := hf j k hj
  obtain ⟨xs, n, _, _, hlen, hxl, hg⟩ := DataW.trod_struct hu hx
  have h1 := hg i f hi
  have hil : i < xs.length := by rw [hxl]; exact (Array.getElem?_eq_some_iff.1 hi).1
  rw [List.getElem?_eq_getElem hil] at h1
  obtain ⟨v, hv, hok⟩ := hfl H enc w base spare held n _ _ h1 j' k hk
  refine ⟨v, ?_, hok⟩
  rw [List.getElem?_take, if_pos hlt, List.getElem?_drop] at hv
  exact hv
def IsRec (ks : List (Option IntKind)) (w : World) (a : Option Addr) (len cap : Nat) : Prop :=
  ∃ f : Nat → Nat → Value, (∀ (i j : Nat) (k : Option IntKind), i < len → ks[j]? = some k → FOk k (f i j)) ∧
    (∀ i : Nat, i < len → ∃ b off : Nat, a = some ⟨b, off, none⟩ ∧ ∀ j : Nat, j < ks.length → w.cell? ⟨b, off + (i * ks.length + j), none⟩ = some (f i j)) ∧
    len ≤ cap ∧ cap ≤ maxLen ∧ (a = none → len = 0 ∧ cap = 0)
set_option maxRecDepth 100000 in
theorem isRec_open {H : Type} {enc : TypeId × Value → H} {P : Program} {W : World} {t e : TypeId} {ks : List (Option IntKind)} {a : Option Addr} {len cap : Nat} {d : DataW H} {p : List MemPlace}
    (ht : P.underlying t = some (.slice e)) (hF : Flat P e ks) (hC : P.cellsOf e = ks.length) (h0 : 0 < ks.length)
    (h : DataW.Trod enc P W 0 (fun _ => true) true t (.slice a len cap) d p) : IsRec ks W a len cap := by
  obtain ⟨fuel, hf⟩ := h
  rcases open_slice ht hf with ⟨hcs, _⟩ | ⟨x, l, c, m, n, D, Pl, hcs, _, hl, hm, hmm, _, hi⟩
  · simp [Value.cells] at hcs
    obtain ⟨rfl, rfl, rfl⟩ := hcs
    exact ⟨fun _ _ => .bool false, fun i j k hi => absurd hi (by omega), fun i hi => absurd hi (by omega), Nat.le_refl _, by unfold maxLen; omega, fun _ => ⟨rfl, rfl⟩⟩
  · simp [Value.cells] at hcs
    obtain ⟨rfl, rfl, rfl⟩ := hcs
    simp only [if_true] at hmm
    subst hmm
    rw [hC] at hi
    have key : ∀ i : Nat, i < len → ∀ (j : Nat) (k : Option IntKind), ks[j]? = some k → ∃ v : Value, FOk k v ∧ W.cell? (x.add (i * ks.length + j)) = some v := by
      intro i hil j k hk
      obtain ⟨cs', hc, ht'⟩ := hi i (by omega)
      obtain ⟨_, hcl, hat⟩ := World.cells?_some hc
      obtain ⟨v, hv, hok⟩ := hF H enc W 0 _ true n cs' _ ht' j k hk
      have hj : j < ks.length := (List.getElem?_eq_some_iff.1 hk).1
      refine ⟨v, hok, ?_⟩
      rw [← Go.Deep.add_add, hat j hj, hv]
    have hne : ∀ i, i < len → ∃ b off, x = ⟨b, off, none⟩ := by
      intro i hil
      obtain ⟨v, _, hc⟩ := key i hil 0 _ (List.getElem?_eq_getElem h0)
      obtain ⟨b, off, spot⟩ := x
      have hspot : spot = none := by
        by_cases hz : i * ks.length + 0 = 0
        · rw [hz] at hc; simpa [Addr.add] using World.cell?_spot hc
        · have := World.cell?_spot hc
          unfold Addr.add at hc
          by_cases hs : spot = none
          · exact hs
          · exfalso
            obtain ⟨v0, _, hc0⟩ := key 0 (by omega) 0 _ (List.getElem?_eq_getElem h0)
            have := World.cell?_spot hc0
            simp [Addr.add] at this
            exact hs this
      subst hspot
      exact ⟨b, off, rfl⟩
    refine ⟨fun i j => (W.cell? (x.add (i * ks.length + j))).getD (.bool false), ?_, ?_, hl, hm, fun e => by cases e⟩
    · intro i j k hil hk
      obtain ⟨v, hok, hc⟩ := key i hil j k hk
      simp only [hc, Option.getD_some]
      exact hok
    · intro i hil
      obtain ⟨b, off, rfl⟩ := hne i hil
      refine ⟨b, off, rfl, fun j hj => ?_⟩
      obtain ⟨v, _, hc⟩ := key i hil j _ (List.getElem?_eq_getElem hj)
      rw [← add_none]
      simp only [hc, Option.getD_some]
end Go.Proofs.Ytmfagdbocidfjaa

/- What a walk is told of a matrix that came in by value. Lemmas alone. -/
namespace Go.Proofs.Ytmfagdbocidfjaa
open Go.RowKit Go.ChangeShapes Go.WideShapes Go.ChangeAt Go.Deep
def IsMx (w : World) (v : Value) : Prop := ∃ (r c : Int) (a : Option Addr) (len cap : Nat) (zs : List Int), v = .agg #[.int .i64 r, .int .i64 c, .slice a len cap] ∧ (Lit.int .i64 r).wf = true ∧ (Lit.int .i64 c).wf = true ∧ IsRow .u8 w a len cap zs
set_option maxRecDepth 100000 in
theorem mx_open {H : Type} {enc : TypeId × Value → H} {W : World} {v : Value} {d : DataW H} {p : List MemPlace}
    (hv : ∃ cs, v = .agg cs ∧ cs.size = Try.prog.cellsOf 188) (h : DataW.Trod enc Try.prog W 0 (fun _ => true) true 188 v d p) : IsMx W v := by
  obtain ⟨cs, rfl, hs⟩ := hv
  obtain ⟨fuel, hf⟩ := h
  have hs3 : cs.size = 3 := by rw [hs]; kernel_rfl
  obtain ⟨xs, n, _, _, hlen, hxl, hg⟩ := DataW.trod_struct Try.underlying188 hf
  have h0 := hg 0 _ rfl
  have h1 := hg 1 _ rfl
  have h2 := hg 2 _ rfl
  obtain ⟨u0, u1, u2, rfl⟩ : ∃ u0 u1 u2, cs = #[u0, u1, u2] := by
    obtain ⟨l⟩ := cs
    match l, hs3 with
    | [x, y, z], _ => exact ⟨x, y, z, rfl⟩
  have hx3 : xs.length = 3 := by rw [hxl]; rfl
  have c0 : Try.prog.cellsOf 3 = 1 := by kernel_rfl
  have c2 : Try.prog.cellsOf 71 = 1 := by kernel_rfl
  obtain ⟨x0, hx0⟩ : ∃ x0, xs[0]? = some x0 := ⟨_, List.getElem?_eq_getElem (by omega)⟩
  obtain ⟨x1, hx1⟩ : ∃ x1, xs[1]? = some x1 := ⟨_, List.getElem?_eq_getElem (by omega)⟩
  obtain ⟨x2, hx2⟩ : ∃ x2, xs[2]? = some x2 := ⟨_, List.getElem?_eq_getElem (by omega)⟩
  rw [hx0] at h0
  rw [hx1] at h1
  rw [hx2] at h2
  have e0 : (List.drop 0 (Value.agg #[u0, u1, u2]).cells.toList).take 1 = [u0] := rfl
  have e1 : (List.drop 1 (Value.agg #[u0, u1, u2]).cells.toList).take 1 = [u1] := rfl
  have e2 : (List.drop 2 (Value.agg #[u0, u1, u2]).cells.toList).take 1 = [u2] := rfl
  have g0 : DataW.trod enc Try.prog W 0 (fun _ => true) true n 3 ((List.drop 0 (Value.agg #[u0, u1, u2]).cells.toList).take (Try.prog.cellsOf 3)) = some x0 := h0
  have g1 : DataW.trod enc Try.prog W 0 (fun _ => true) true n 3 ((List.drop 1 (Value.agg #[u0, u1, u2]).cells.toList).take (Try.prog.cellsOf 3)) = some x1 := h1
  have g2 : DataW.trod enc Try.prog W 0 (fun _ => true) true n 71 ((List.drop 2 (Value.agg #[u0, u1, u2]).cells.toList).take (Try.prog.cellsOf 71)) = some x2 := h2
  rw [c0, e0] at g0
  rw [c0, e1] at g1
  rw [c2, e2] at g2
  obtain ⟨r, hr, _, hwr⟩ := DataW.trod_int Try.underlying3 g0
  obtain ⟨c, hc, _, hwc⟩ := DataW.trod_int Try.underlying3 g1
  injection hr with hr
  injection hc with hc
  subst hr hc
  rcases open_ints Try.underlying71 Try.underlying5 (by kernel_rfl) g2 with ⟨hcs, _⟩ | ⟨x, l, k, zs, hcs, _, hl, hm, hz, _, hcell, hwz⟩
  · injection hcs with hcs
    subst hcs
    exact ⟨r, c, none, 0, 0, [], rfl, hwr, hwc, .inl ⟨rfl, rfl, rfl, rfl⟩⟩
  · injection hcs with hcs
    subst hcs
    exact ⟨r, c, some x, l, k, zs, rfl, hwr, hwc, .inr ⟨x, rfl, hl, hm, by simpa using hz, hcell, hwz⟩⟩
end Go.Proofs.Ytmfagdbocidfjaa

/- What the laws of layer 5 are told of a matrix that is right. Lemmas alone. -/
namespace Go.Proofs.Ytmfagdbocidfjaa
open Go.RowKit
set_option maxRecDepth 100000 in
theorem mx_bytes {w : World} {a : Option Addr} {len cap : Nat} {zs : List Int} (h : IsRow .u8 w a len cap zs) : ∃ f, By w a len f ∧ (∀ j, f j < 256) ∧ (a = none → len = 0 ∧ cap = 0) ∧ len ≤ cap ∧ cap ≤ maxLen := by
  obtain ⟨l, hl, h1, h2, hb, hs⟩ := isRow_nat h 256 u8_bd
  refine ⟨fun i => l.getD i 0, fun i hi => ?_, fun i => ?_, fun e => ?_, h1, h2⟩
  · have hi2 : i < l.length := by omega
    obtain ⟨b, off, hsb, hc⟩ := hs i (l.getD i 0) (by rw [List.getD_eq_getElem?_getD, List.getElem?_eq_getElem hi2]; rfl)
    exact ⟨b, off, hsb, hc⟩
  · show l.getD i 0 < 256
    by_cases hi : i < l.length
    · rw [List.getD_eq_getElem?_getD, List.getElem?_eq_getElem hi]; exact hb _ (List.getElem_mem _)
    · rw [List.getD_eq_getElem?_getD, List.getElem?_eq_none (by omega)]; exact (by decide : 0 < 256)
  · subst e; exact isRow_none h
/-- a matrix that is right -/
structure RMx (w : World) (r c : Int) (a : Option Addr) (len cap R C : Nat) (F : Nat → Nat → Nat) : Prop where
  r : r = (R : Int)
  c : c = (C : Int)
  len : len = R * C
  hR : R ≤ 255
  hC : C ≤ 255
  m : MAt w a R C F
  bd : Bd2 F
  nil : a = none → R * C = 0 ∧ cap = 0
  cap : R * C ≤ cap
set_option maxRecDepth 100000 in
theorem mx_right {w : World} {r c : Int} {a : Option Addr} {len cap : Nat} {zs : List Int} (h : IsRow .u8 w a len cap zs) (hr : rightB r c len = true) : ∃ R C F, RMx w r c a len cap R C F := by
  obtain ⟨f, hby, hb, hn, hc, _⟩ := mx_bytes h
  unfold rightB at hr
  simp only [decide_eq_true_eq] at hr
  obtain ⟨h1, h2, h3, h4, h5⟩ := hr
  obtain ⟨R, rfl⟩ : ∃ R : Nat, r = R := ⟨r.toNat, by omega⟩
  obtain ⟨C, rfl⟩ : ∃ C : Nat, c = C := ⟨c.toNat, by omega⟩
  have hlen : len = R * C := by
    have : (len : Int) = ((R * C : Nat) : Int) := by rw [h5]; simp
    exact Int.ofNat.inj this
  subst hlen
  refine ⟨R, C, fun i k => f (i * C + k), rfl, rfl, rfl, by omega, by omega, fun i k hi hk => ?_, fun _ _ => hb _, hn, hc⟩
  exact hby (i * C + k) (idx_lt hi hk)
set_option maxRecDepth 100000 in
theorem RMx.below {w w' : World} {r c : Int} {a : Option Addr} {len cap R C : Nat} {F : Nat → Nat → Nat} (h : RMx w r c a len cap R C F) (hb : Below w.heap.size w w') : RMx w' r c a len cap R C F :=
  ⟨h.r, h.c, h.len, h.hR, h.hC, h.m.below hb, h.bd, h.nil, h.cap⟩
set_option maxRecDepth 100000 in
theorem decide_le_t (a b : Nat) (h : a ≤ b) : decide ((a : Int) ≤ (b : Int)) = true := decide_eq_true (by omega)
end Go.Proofs.Ytmfagdbocidfjaa

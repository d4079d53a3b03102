import Derived.Test.YtmfagdbocidfjaaV18
import Derived.Test.YtmfagdbocidfjaaV24
import Derived.Test.YtmfagdbocidfjaaV30
import Derived.Test.YtmfagdbocidfjaaV33
import Derived.Test.YtmfagdbocidfjaaV37
import Derived.Deep.CutBlock
/- What a walk is told of a slice of slices of bytes that came in. Lemmas alone. -/
namespace Go.Proofs.Ytmfagdbocidfjaa
open Go.RowKit Go.ChangeShapes Go.WideShapes Go.ChangeAt Go.Deep
/-- each element is a slice of bytes -/
def IsRows (w : World) (a : Option Addr) (len cap : Nat) : Prop :=
  ∃ (A : Nat → Option Addr) (L K : Nat → Nat) (Z : Nat → List Int),
    (∀ i, i < len → ∃ b off, a = some ⟨b, off, none⟩ ∧ w.cell? ⟨b, off + i, none⟩ = some (.slice (A i) (L i) (K i)) ∧ IsRow .u8 w (A i) (L i) (K i) (Z i)) ∧
    len ≤ cap ∧ cap ≤ maxLen ∧ (a = none → len = 0 ∧ cap = 0)
set_option maxRecDepth 100000 in
theorem isRows_one {H : Type} {enc : TypeId × Value → H} {P : Program} {W : World} {e b : TypeId} {n : Nat} {v : Value} {x : DataW H × List MemPlace}
    (he : P.underlying e = some (.slice b)) (hb : P.underlying b = some (.int .u8)) (hc : P.cellsOf b = 1)
    (h : DataW.trod enc P W 0 (fun _ => true) true n e [v] = some x) : ∃ a l c z, v = .slice a l c ∧ IsRow .u8 W a l c z := by
  rcases open_ints he hb hc h with ⟨hcs, _⟩ | ⟨x, l, c, zs, hcs, _, hl, hm, hz, _, hcell, hwz⟩
  · injection hcs with hcs
    subst hcs
    exact ⟨none, 0, 0, [], rfl, .inl ⟨rfl, rfl, rfl, rfl⟩⟩
  · injection hcs with hcs
    subst hcs
    exact ⟨some x, l, c, zs, rfl, .inr ⟨x, rfl, hl, hm, by simpa using hz, hcell, hwz⟩⟩
set_option maxRecDepth 100000 in
theorem isRows_open {H : Type} {enc : TypeId × Value → H} {P : Program} {W : World} {t e b : TypeId} {a : Option Addr} {len cap : Nat} {d : DataW H} {p : List MemPlace}
    (ht : P.underlying t = some (.slice e)) (he : P.underlying e = some (.slice b)) (hb : P.underlying b = some (.int .u8)) (hce : P.cellsOf e = 1) (hc : P.cellsOf b = 1)
    (h : DataW.Trod enc P W 0 (fun _ => true) true t (.slice a len cap) d p) : IsRows W a len cap := by
  obtain ⟨fuel, hf⟩ := h
  rcases open_slice1 ht hce hf with ⟨hcs, _⟩ | ⟨x, l, c, m, n, V, D, Pl, hcs, _, hl, hm, hmm, _, hi⟩
  · simp [Value.cells] at hcs
    obtain ⟨rfl, rfl, rfl⟩ := hcs
    exact ⟨fun _ => none, fun _ => 0, fun _ => 0, fun _ => [], fun i hi => absurd hi (by omega), Nat.le_refl _, by unfold maxLen; omega, fun _ => ⟨rfl, rfl⟩⟩
  · simp [Value.cells] at hcs
    obtain ⟨rfl, rfl, rfl⟩ := hcs
    simp only [if_true] at hmm
    subst hmm
    have key : ∀ i, i < len → ∃ (y : Option Addr × Nat × Nat × List Int), V i = .slice y.1 y.2.1 y.2.2.1 ∧ IsRow .u8 W y.1 y.2.1 y.2.2.1 y.2.2.2 := fun i hil => by
      obtain ⟨a, l, c, z, h1, h2⟩ := isRows_one he hb hc (hi i (by omega)).2
      exact ⟨(a, l, c, z), h1, h2⟩
    obtain ⟨Y, hY⟩ := choose_lt (α := Option Addr × Nat × Nat × List Int) key
    refine ⟨fun i => (Y i).1, fun i => (Y i).2.1, fun i => (Y i).2.2.1, fun i => (Y i).2.2.2, fun i hil => ?_, hl, hm, fun e => by cases e⟩
    obtain ⟨h1, h2⟩ := hY i hil
    have hcell := (hi i (by omega)).1
    rw [h1] at hcell
    have hspot : x.spot = none := by
      have h0 := (hi 0 (by omega)).1
      simpa [Addr.add] using World.cell?_spot h0
    obtain ⟨b, off, spot⟩ := x
    simp only at hspot
    subst hspot
    rw [add_none] at hcell
    exact ⟨b, off, rfl, hcell, h2⟩
end Go.Proofs.Ytmfagdbocidfjaa

/- group.Inputs. Conditions: what the shards read as. -/
namespace Go.Proofs.Ytmfagdbocidfjaa
open Go.RowKit
set_option maxRecDepth 100000 in
theorem infoIn : (Try.prog.info? 34).map (fun i => (i.zero, i.size, i.bytes)) = some (some (.int .u16 0), 1, 2) := by kernel_rfl
/-- rows of bytes, as lists -/
def ShAt (w : World) (s : Option Addr) (m : Nat) (G : Nat → List Nat) : Prop := ∀ i, i < m → ∃ b off a k, s = some ⟨b, off, none⟩ ∧ w.cell? ⟨b, off + i, none⟩ = some (.slice a (G i).length k) ∧ SlN .u8 w a (G i) ∧ (∀ x ∈ G i, x < 256) ∧ (G i).length ≤ k ∧ k ≤ maxLen
set_option maxRecDepth 100000 in
theorem slN_below {w w' : World} {a : Option Addr} {l : List Nat} (h : SlN .u8 w a l) (hb : Below w.heap.size w w') : SlN .u8 w' a l := by
  intro i x hx
  obtain ⟨b, off, hs, hc⟩ := h i x hx
  exact ⟨b, off, hs, (hb.cell (p := ⟨b, off + i, none⟩) (cell_block_lt hc)).trans hc⟩
set_option maxRecDepth 100000 in
theorem ShAt.below {w w' : World} {s : Option Addr} {m : Nat} {G : Nat → List Nat} (h : ShAt w s m G) (hb : Below w.heap.size w w') : ShAt w' s m G := fun i hi => by
  obtain ⟨b, off, a, k, hs, hc, h1, h2⟩ := h i hi
  exact ⟨b, off, a, k, hs, (hb.cell (p := ⟨b, off + i, none⟩) (cell_block_lt hc)).trans hc, slN_below h1 hb, h2⟩
set_option maxRecDepth 100000 in
theorem sh_open {w : World} {a : Option Addr} {len cap : Nat} (h : IsRows w a len cap) : ∃ G, ShAt w a len G := by
  obtain ⟨A, L, K, Z, h1, _, _, _⟩ := h
  have key : ∀ i, i < len → ∃ l : List Nat, l.length = L i ∧ L i ≤ K i ∧ K i ≤ maxLen ∧ (∀ x ∈ l, x < 256) ∧ SlN .u8 w (A i) l := fun i hi => by
    obtain ⟨b, off, hs, hc, hr⟩ := h1 i hi
    exact isRow_nat hr 256 (fun n hn => by
      have : 0 ≤ n ∧ n ≤ 255 := by simpa [Lit.wf, IntKind.min, IntKind.max, IntKind.signed, IntKind.bits] using hn
      omega)
  obtain ⟨G, hG⟩ := Go.Deep.choose_lt (α := List Nat) key
  refine ⟨G, fun i hi => ?_⟩
  obtain ⟨b, off, hs, hc, hr⟩ := h1 i hi
  obtain ⟨e1, e2, e3, e4, e5⟩ := hG i hi
  exact ⟨b, off, A i, K i, hs, by rw [e1]; exact hc, e5, e4, by rw [e1]; exact e2, e3⟩
def inW (G : Nat → List Nat) (i : Nat) : Nat := getN ((G i).take 8)
set_option maxRecDepth 100000 in
theorem inW_lt {l : List Nat} (h : l.length = 2) (hb : ∀ x ∈ l, x < 256) : getN (l.take 8) < 65536 := by
  have e : l.take 8 = l.take 2 := by rw [List.take_of_length_le (by omega), List.take_of_length_le (by omega)]
  rw [e]
  exact getN_lt l hb 2
def InPost (W : World) (m q : Nat) (G : Nat → List Nat) (e : Ending) (W' : World) : Prop :=
  (q = m ∧ ∃ v, e = .returned (.tuple #[v, .bool true]) ∧ OwnZ W' W.heap.size 34 .u16 v m (fun i => (inW G i : Nat)) ∧ Below W.heap.size W W') ∨ (q < m ∧ e = .returned (.tuple #[.slice none 0 0, .bool false]) ∧ Below W.heap.size W W')
set_option maxRecDepth 100000 in
theorem bne_two (n : Nat) (h : n ≠ 2) : (((n : Nat) : Int) != 2) = true := by simp; omega
attribute [local irreducible] getN
set_option maxRecDepth 100000 in
set_option maxHeartbeats 2000000 in
theorem s_inputs (m q : Nat) (s : Option Addr) (cap : Nat) (G : Nat → List Nat) (w : World) (hs : ShAt w s m G) (hq : q ≤ m) (hm : m ≤ 90000000) (hg : ∀ i, i < q → (G i).length = 2) (hbad : q < m → (G q).length ≠ 2) :
    Calls Try.prog 89 #[.slice s m cap] w (InPost w m q G) := by
  have hsh := Lib.hid hs
  have hgh := Lib.hid hg
  have hbadh := Lib.hid hbad
  clear hs hg hbad
  go_enter Try.func89, Try.ntmps89
  go_upto_region 3 with (fail)
  go_loopw [4, 9] (fun v4 v9 wr => ∃ i : Nat, i ≤ q ∧ v9 = .int .i64 (i : Nat) ∧ Hid (OwnZ wr w.heap.size 34 .u16 v4 i (fun i => (inW G i : Nat))) ∧ Hid (Below w.heap.size w wr)) (fun _ v9 _ => m - (intOf v9).toNat)
  case atStart => exact ⟨0, by omega, rfl, hide (OwnZ.nil _ _ _ _ _), hide (Below.refl _ _)⟩
  case round =>
    obtain ⟨i, hi, rfl, ho, hB⟩ := hrel
    have hsz := hB.out.size
    by_cases him : i < m
    · have i1 : (i : Int) < (m : Int) := by omega
      obtain ⟨b, off, a, k, rfl, hc, hl, hbd, hk1, hk2⟩ := hsh.out i him
      have hc2 := (hB.out.cell (p := ⟨b, off + i, none⟩) (cell_block_lt hc)).trans hc
      have hlh := Lib.hid (slN_below hl hB.out)
      have hbdh := Lib.hid hbd
      by_cases hiq : i < q
      · have hl2 := hgh.out i hiq
        have hxlt := inW_lt hl2 hbd
        have hwx : IntKind.u16.wrap ((getN ((G i).take 8) : Nat) : Int) = ((getN ((G i).take 8) : Nat) : Int) := by rw [IntKind.wrap_u16]; omega
        have kget := Lib.hid (w_get a k (G i) wr hlh.out hbdh.out hk1 (by unfold maxLen at hk2; omega))
        have hwi : Hid (inW G i = getN ((G i).take 8)) := hide rfl
        rw [hl2] at hc2 hk1 kget
        obtain ⟨X, hX⟩ : ∃ X, getN ((G i).take 8) = X := ⟨_, rfl⟩
        rw [hX] at hxlt hwx kget hwi
        have hcg : Hid (∀ j, j < i + 1 → (if j = i then (X : Int) else ((inW G j : Nat) : Int)) = ((inW G j : Nat) : Int)) := hide (fun j hj => by
          by_cases e : j = i
          · rw [if_pos e, e, hwi.out]
          · rw [if_neg e])
        clear hc hl hbd hX hl2
        go_wp2_with fail
        refine kget.out.mono ?_
        rintro e w2 ⟨rfl, rfl⟩
        clear hc2
        go_wp2_with (at_builtin; refine wpList_snocZ2 Try.underlying31 infoIn (by decide) rfl (.tmp 16) (.tmp 20) rfl wr _ w.heap.size i (fun i => (inW G i : Nat)) (X : Nat) rfl rfl rfl ho.out (by omega) hsz ?_; intro v' w6 ho6 hgr hb6; have hO6 := Lib.hid (ho6.congr hcg.out); have hL6 := Lib.hid (below_grown hB.out (Nat.le_refl _) hgr (fun b hb => (ho.out.lt b hb).1)); clear ho6 hgr hb6)
        go_roundw
        case rel => exact ⟨i + 1, by omega, by go_num, hO6, hL6⟩
        case measure => simp [intOf]; omega
      · obtain rfl : i = q := by omega
        have hl2 := bne_two _ (hbadh.out him)
        clear hc hl hbd
        go_wp2_with fail
        go_ret2
        exact .inr ⟨him, rfl, hB.out⟩
    · obtain rfl : q = m := by omega
      obtain rfl : i = q := by omega
      have i1 : decide ((i : Int) < (i : Int)) = false := by simp
      go_wp2_with fail
      go_ret2
      exact .inl ⟨rfl, _, rfl, ho.out, hB.out⟩
end Go.Proofs.Ytmfagdbocidfjaa

/- The window of groups: a group of which just enough shards came is mended. Conditions: what the blocks hold. -/
namespace Go.Proofs.Ytmfagdbocidfjaa
open Go.RowKit
/-- the part whose inputs are known -/
def pd (fi K m : Nat) (sh inp : Value) : Nat → Value
  | 0 => .bool true
  | 1 => .int .u32 (fi : Nat)
  | 2 => .int .i64 (K : Nat)
  | 3 => .int .i64 (m : Nat)
  | 4 => sh
  | 5 => inp
  | _ => .bool true
def MendPost (w : World) (x p base fr fi K m : Nat) (rdy sh : Value) (d : Int) (In : Nat → Nat) (e : Ending) (w' : World) : Prop :=
  e = .returned (.tuple #[]) ∧ ∃ inp mm, WinAt w' x p base fr rdy d mm (pd fi K m sh inp) ∧ OwnZ w' w.heap.size 34 .u16 inp K (fun i => (In i : Nat)) ∧ w.grownBy w' (some x)
set_option maxRecDepth 100000 in
theorem grD_bd (K : Nat) (In : Nat → Nat) (h : ∀ j, In j < 65536) : Bd2 (grD K In) := fun i t => by
  unfold grD catV
  split
  · exact inV_bd In h _ _
  · unfold paF; exact ml_bd _ _ _ _ _
set_option maxRecDepth 100000 in
/-- what was decoded reads as the inputs -/
theorem in_back (K : Nat) (hK : K ≤ 255) (In : Nat → Nat) (hIn : ∀ j, In j < 65536) (I : Nat → Nat) (hI : ∀ j, j < K → I j < 256) (hinj : ∀ i j, i < K → j < K → I i = I j → i = j) (r : Nat) (hr : r < K) :
    inW (fun i => [mlF (ivS (pkF (rsF K) I) K K).2 (fun j => grD K In (I j)) K i 0, mlF (ivS (pkF (rsF K) I) K K).2 (fun j => grD K In (I j)) K i 1]) r = In r := by
  unfold inW
  dsimp only
  rw [rs_back K hK In hIn I hI hinj r 0 hr, rs_back K hK In hIn I hI hinj r 1 hr]
  unfold inV put16F
  have := hIn r
  simp [getN]
  omega
set_option maxRecDepth 100000 in
theorem grown_below {w w' : World} (h : Below w.heap.size w w') (r : Option Nat) : w.grownBy w' r := ⟨h.os, h.tape, h.output, h.size, fun i hi _ => h.block i hi⟩
set_option maxRecDepth 100000 in
theorem inc_inj (I : Nat → Nat) (K : Nat) (h : ∀ j, j + 1 < K → I j < I (j + 1)) (i j : Nat) (hi : i < K) (hj : j < K) (e : I i = I j) : i = j := by
  have key : ∀ b a, a < b → b < K → I a < I b := by
    intro b
    induction b with
    | zero => intro a ha; omega
    | succ b ih =>
      intro a ha hb
      have h1 := h b hb
      by_cases e : a = b
      · subst e; exact h1
      · have := ih a (by omega) (by omega); omega
  rcases Nat.lt_trichotomy i j with h1 | h1 | h1
  · have := key j i h1 hj; omega
  · exact h1
  · have := key i j h1 hi; omega
set_option maxRecDepth 100000 in
theorem ap_sh {w' w2 W : World} {g K x : Nat} {V : Nat → Nat → Nat} {D : Array Value} (h : ApAt w' W g K 2 K V D) (hV : Bd2 V) (hg : w'.grownBy w2 (some x)) (hx : x < g) : ShAt w2 (some ⟨g, 0, none⟩) K (fun i => [V i 0, V i 1]) := fun i hi => by
  obtain ⟨A, h1, h2⟩ := h.rowsS (by omega)
  obtain ⟨q, k, h3, hgq, h4, h5, h6⟩ := h2 i hi
  have h7 := h1 i hi
  rw [h3] at h7
  have hgl := cell_block_lt h7
  have h8 := h4.stay (hg.block q h4.lt (fun e => by have := Option.some.inj e; omega))
  have h9 : w2.cell? ⟨g, i, none⟩ = w'.cell? ⟨g, i, none⟩ := by
    have := hg.block g hgl (fun e => by have := Option.some.inj e; omega)
    simp only [World.cell?, this]
  refine ⟨g, 0, some ⟨q, 0, none⟩, k, rfl, by rw [Nat.zero_add, h9]; exact h7, fun j x hj => ?_, fun x hx => ?_, h5, h6⟩
  · obtain ⟨b, off, e1, e2⟩ := h8.by j (by have := (List.getElem?_eq_some_iff.1 hj).1; simpa using this)
    refine ⟨b, off, e1, ?_⟩
    rw [e2]
    rcases j with _ | _ | j
    · simp at hj; rw [hj]
    · simp at hj; rw [hj]
    · simp at hj
  · simp at hx
    rcases hx with rfl | rfl <;> exact hV _ _
attribute [local irreducible] gexp gtbl glog rmul rinv rpow zexp mixF blk flF BRow MRow MAt By IsGf ivS rsF mlF RowsAt paF OwnS SlR dtF inV grD getN shC
set_option maxRecDepth 100000 in
set_option maxHeartbeats 4000000 in
theorem re_mend (x p base o fr fi K m lo b off cap : Nat) (rdy : Value) (d mm : Int) (I G cc In : Nat → Nat) (w : World) (hw : WinAt w x p base fr rdy d mm (pq fi K m (.slice (some ⟨b, off, none⟩) K cap))) (hb : base < 32) (ho : 3 + base * 7 = o) (hp : IsGf w p) (hpx : p < x) (hs : SdAt w lo (.slice (some ⟨b, off, none⟩) K cap) K I G cc (fun j => grD K In (I j))) (h0 : 1 ≤ K) (hk8 : K ≤ 8) (hkm : m ≤ 6)
    (hI : ∀ j, j < K → I j < K + m) (hi : ∀ j, j + 1 < K → I j < I (j + 1)) (hIn : ∀ j, In j < 65536) :
    Calls Try.prog 59 #[.pointer (some ⟨x, 0, none⟩), .pointer (some ⟨x, o, none⟩)] w (MendPost w x p base fr fi K m rdy (.slice (some ⟨b, off, none⟩) K cap) d In) := by
  have hsh := Lib.hid hs
  have hph := Lib.hid hp
  have hIh := Lib.hid hI
  have hih := Lib.hid hi
  have hInh := Lib.hid hIn
  have hwh := Lib.hid hw
  have hpart := hw.part hb
  rw [ho] at hpart
  have c0 := hw.cells.1
  have c2 : w.cell? ⟨x, o + 2, none⟩ = some (.int .i64 (K : Nat)) := hpart 2 (by omega)
  have c3 : w.cell? ⟨x, o + 3, none⟩ = some (.int .i64 (m : Nat)) := hpart 3 (by omega)
  have c4 : w.cell? ⟨x, o + 4, none⟩ = some (.slice (some ⟨b, off, none⟩) K cap) := hpart 4 (by omega)
  have hS : Hid (∀ y, Below w.heap.size w y → (fun y : World => y.cell? ⟨x, 0, none⟩ = some (.pointer (some ⟨p, 0, none⟩)) ∧ y.cell? ⟨x, o + 2, none⟩ = some (.int .i64 (K : Nat)) ∧ y.cell? ⟨x, o + 3, none⟩ = some (.int .i64 (m : Nat))) y) := hide (fun y hy => ⟨(hy.cell (cell_block_lt c0)).trans c0, (hy.cell (cell_block_lt c2)).trans c2, (hy.cell (cell_block_lt c3)).trans c3⟩)
  have hc4 : Hid (∀ y, Below w.heap.size w y → y.cell? ⟨x, o + 4, none⟩ = some (.slice (some ⟨b, off, none⟩) K cap)) := hide (fun y hy => (hy.cell (cell_block_lt c4)).trans c4)
  have d0 : decide ((K : Int) < (K : Int)) = false := by simp
  clear hs hp hI hi hIn hw hpart c0 c2 c3
  go_enter Try.func59, Try.ntmps59
  have c2 := (hS.out w (Below.refl _ _)).2.1
  have c4 := hc4.out w (Below.refl _ _)
  go_upto_region 0 with (fail)
  go_quiet (fail)
  go_upto_region 1 with (fail)
  clear c2 c4 d0
  obtain ⟨W, hW⟩ : ∃ W, w.drewN nq = W := ⟨_, rfl⟩
  rw [hW]
  have hBW : Hid (Below w.heap.size w W) := hide (hW ▸ below_drewN (Below.refl _ _) _)
  clear hW
  have hSd : Hid (∀ y, Below W.heap.size W y → (fun y : World => y.cell? ⟨x, 0, none⟩ = some (.pointer (some ⟨p, 0, none⟩)) ∧ y.cell? ⟨x, o + 2, none⟩ = some (.int .i64 (K : Nat)) ∧ y.cell? ⟨x, o + 3, none⟩ = some (.int .i64 (m : Nat))) y) := hide (fun y hy => hS.out y (hBW.out.trans (hy.mono hBW.out.size)))
  have hBd : Hid (Below W.heap.size W W.drew) := hide (below_drewN (Below.refl _ _) 1)
  have kc := Lib.hid (s_code p K m W.drew (hph.out.below (hBW.out.trans (hBd.out.mono hBW.out.size)) hph.out.lt) h0 (by omega))
  refine h_begin 18 (fun y : World => y.cell? ⟨x, 0, none⟩ = some (.pointer (some ⟨p, 0, none⟩)) ∧ y.cell? ⟨x, o + 2, none⟩ = some (.int .i64 (K : Nat)) ∧ y.cell? ⟨x, o + 3, none⟩ = some (.int .i64 (m : Nat))) rfl (by kernel_rfl) (hSd.out _ hBd.out) ?_
  have hHeld : (fun y : World => y.cell? ⟨x, 0, none⟩ = some (.pointer (some ⟨p, 0, none⟩)) ∧ y.cell? ⟨x, o + 2, none⟩ = some (.int .i64 (K : Nat)) ∧ y.cell? ⟨x, o + 3, none⟩ = some (.int .i64 (m : Nat))) W.drew := hSd.out _ hBd.out
  first
    | (refine h_run (i := 0) (v := ?_) hHeld rfl (by kernel_rfl) (by kernel_rfl) (by kernel_rfl) ?_ ?_ ?_
       rotate_left
       · rfl
       · (intro x hSx; (try dsimp only at hSx); go_simp <;> with_reducible rfl)
       simp only [Act.put, List.setIfInBounds_toArray, List.set_cons_zero, List.set_cons_succ])
    | (refine h_skip (i := 0) hHeld rfl (by kernel_rfl) (by kernel_rfl) (by kernel_rfl) ?_ ?_
       · rfl
       simp only [Act.put, List.setIfInBounds_toArray, List.set_cons_zero, List.set_cons_succ])
  first
    | (refine h_run (i := 1) (v := ?_) hHeld rfl (by kernel_rfl) (by kernel_rfl) (by kernel_rfl) ?_ ?_ ?_
       rotate_left
       · rfl
       · (intro x hSx; (try dsimp only at hSx); go_simp <;> with_reducible rfl)
       simp only [Act.put, List.setIfInBounds_toArray, List.set_cons_zero, List.set_cons_succ])
    | (refine h_skip (i := 1) hHeld rfl (by kernel_rfl) (by kernel_rfl) (by kernel_rfl) ?_ ?_
       · rfl
       simp only [Act.put, List.setIfInBounds_toArray, List.set_cons_zero, List.set_cons_succ])
  first
    | (refine h_run (i := 2) (v := ?_) hHeld rfl (by kernel_rfl) (by kernel_rfl) (by kernel_rfl) ?_ ?_ ?_
       rotate_left
       · rfl
       · (intro x hSx; (try dsimp only at hSx); go_simp <;> with_reducible rfl)
       simp only [Act.put, List.setIfInBounds_toArray, List.set_cons_zero, List.set_cons_succ])
    | (refine h_skip (i := 2) hHeld rfl (by kernel_rfl) (by kernel_rfl) (by kernel_rfl) ?_ ?_
       · rfl
       simp only [Act.put, List.setIfInBounds_toArray, List.set_cons_zero, List.set_cons_succ])
  first
    | (refine h_run (i := 3) (v := ?_) hHeld rfl (by kernel_rfl) (by kernel_rfl) (by kernel_rfl) ?_ ?_ ?_
       rotate_left
       · rfl
       · (intro x hSx; (try dsimp only at hSx); go_simp <;> with_reducible rfl)
       simp only [Act.put, List.setIfInBounds_toArray, List.set_cons_zero, List.set_cons_succ])
    | (refine h_skip (i := 3) hHeld rfl (by kernel_rfl) (by kernel_rfl) (by kernel_rfl) ?_ ?_
       · rfl
       simp only [Act.put, List.setIfInBounds_toArray, List.set_cons_zero, List.set_cons_succ])
  first
    | (refine h_run (i := 4) (v := ?_) hHeld rfl (by kernel_rfl) (by kernel_rfl) (by kernel_rfl) ?_ ?_ ?_
       rotate_left
       · rfl
       · (intro x hSx; (try dsimp only at hSx); go_simp <;> with_reducible rfl)
       simp only [Act.put, List.setIfInBounds_toArray, List.set_cons_zero, List.set_cons_succ])
    | (refine h_skip (i := 4) hHeld rfl (by kernel_rfl) (by kernel_rfl) (by kernel_rfl) ?_ ?_
       · rfl
       simp only [Act.put, List.setIfInBounds_toArray, List.set_cons_zero, List.set_cons_succ])
  first
    | (refine h_run (i := 5) (v := ?_) hHeld rfl (by kernel_rfl) (by kernel_rfl) (by kernel_rfl) ?_ ?_ ?_
       rotate_left
       · rfl
       · (intro x hSx; (try dsimp only at hSx); go_simp <;> with_reducible rfl)
       simp only [Act.put, List.setIfInBounds_toArray, List.set_cons_zero, List.set_cons_succ])
    | (refine h_skip (i := 5) hHeld rfl (by kernel_rfl) (by kernel_rfl) (by kernel_rfl) ?_ ?_
       · rfl
       simp only [Act.put, List.setIfInBounds_toArray, List.set_cons_zero, List.set_cons_succ])
  first
    | (refine h_run (i := 6) (v := ?_) hHeld rfl (by kernel_rfl) (by kernel_rfl) (by kernel_rfl) ?_ ?_ ?_
       rotate_left
       · rfl
       · (intro x hSx; (try dsimp only at hSx); go_simp <;> with_reducible rfl)
       simp only [Act.put, List.setIfInBounds_toArray, List.set_cons_zero, List.set_cons_succ])
    | (refine h_skip (i := 6) hHeld rfl (by kernel_rfl) (by kernel_rfl) (by kernel_rfl) ?_ ?_
       · rfl
       simp only [Act.put, List.setIfInBounds_toArray, List.set_cons_zero, List.set_cons_succ])
  first
    | (refine h_run (i := 7) (v := ?_) hHeld rfl (by kernel_rfl) (by kernel_rfl) (by kernel_rfl) ?_ ?_ ?_
       rotate_left
       · rfl
       · (intro x hSx; (try dsimp only at hSx); go_simp <;> with_reducible rfl)
       simp only [Act.put, List.setIfInBounds_toArray, List.set_cons_zero, List.set_cons_succ])
    | (refine h_skip (i := 7) hHeld rfl (by kernel_rfl) (by kernel_rfl) (by kernel_rfl) ?_ ?_
       · rfl
       simp only [Act.put, List.setIfInBounds_toArray, List.set_cons_zero, List.set_cons_succ])
  first
    | (refine h_run (i := 8) (v := ?_) hHeld rfl (by kernel_rfl) (by kernel_rfl) (by kernel_rfl) ?_ ?_ ?_
       rotate_left
       · rfl
       · (intro x hSx; (try dsimp only at hSx); go_simp <;> with_reducible rfl)
       simp only [Act.put, List.setIfInBounds_toArray, List.set_cons_zero, List.set_cons_succ])
    | (refine h_skip (i := 8) hHeld rfl (by kernel_rfl) (by kernel_rfl) (by kernel_rfl) ?_ ?_
       · rfl
       simp only [Act.put, List.setIfInBounds_toArray, List.set_cons_zero, List.set_cons_succ])
  first
    | (refine h_run (i := 9) (v := ?_) hHeld rfl (by kernel_rfl) (by kernel_rfl) (by kernel_rfl) ?_ ?_ ?_
       rotate_left
       · rfl
       · (intro x hSx; (try dsimp only at hSx); go_simp <;> with_reducible rfl)
       simp only [Act.put, List.setIfInBounds_toArray, List.set_cons_zero, List.set_cons_succ])
    | (refine h_skip (i := 9) hHeld rfl (by kernel_rfl) (by kernel_rfl) (by kernel_rfl) ?_ ?_
       · rfl
       simp only [Act.put, List.setIfInBounds_toArray, List.set_cons_zero, List.set_cons_succ])
  first
    | (refine h_run (i := 10) (v := ?_) hHeld rfl (by kernel_rfl) (by kernel_rfl) (by kernel_rfl) ?_ ?_ ?_
       rotate_left
       · rfl
       · (intro x hSx; (try dsimp only at hSx); go_simp <;> with_reducible rfl)
       simp only [Act.put, List.setIfInBounds_toArray, List.set_cons_zero, List.set_cons_succ])
    | (refine h_skip (i := 10) hHeld rfl (by kernel_rfl) (by kernel_rfl) (by kernel_rfl) ?_ ?_
       · rfl
       simp only [Act.put, List.setIfInBounds_toArray, List.set_cons_zero, List.set_cons_succ])
  first
    | (refine h_run (i := 11) (v := ?_) hHeld rfl (by kernel_rfl) (by kernel_rfl) (by kernel_rfl) ?_ ?_ ?_
       rotate_left
       · rfl
       · (intro x hSx; (try dsimp only at hSx); go_simp <;> with_reducible rfl)
       simp only [Act.put, List.setIfInBounds_toArray, List.set_cons_zero, List.set_cons_succ])
    | (refine h_skip (i := 11) hHeld rfl (by kernel_rfl) (by kernel_rfl) (by kernel_rfl) ?_ ?_
       · rfl
       simp only [Act.put, List.setIfInBounds_toArray, List.set_cons_zero, List.set_cons_succ])
  clear hHeld
  refine h_call (i := 12) (fun y : World => y.cell? ⟨x, 0, none⟩ = some (.pointer (some ⟨p, 0, none⟩)) ∧ y.cell? ⟨x, o + 2, none⟩ = some (.int .i64 (K : Nat)) ∧ y.cell? ⟨x, o + 3, none⟩ = some (.int .i64 (m : Nat))) (fun _ h => h) kc.out rfl (by kernel_rfl) rfl ?_ ?_
  · go_simp <;> with_reducible rfl
  rintro e w5 ⟨c, rfl, hcl, hca, hb5⟩
  have hB5 : Hid (Below W.heap.size W w5) := hide (hBd.out.trans (hb5.mono hBd.out.size))
  have hcah := Lib.hid hca
  have hHeld := hSd.out _ hB5.out
  refine ⟨_, rfl, hHeld, ?_⟩
  try simp only [Act.put, List.setIfInBounds_toArray, List.set_cons_zero, List.set_cons_succ]
  clear hb5 hca kc
  first
    | (refine h_run (i := 13) (v := ?_) hHeld rfl (by kernel_rfl) (by kernel_rfl) (by kernel_rfl) ?_ ?_ ?_
       rotate_left
       · rfl
       · (intro x hSx; (try dsimp only at hSx); go_simp <;> with_reducible rfl)
       simp only [Act.put, List.setIfInBounds_toArray, List.set_cons_zero, List.set_cons_succ])
    | (refine h_skip (i := 13) hHeld rfl (by kernel_rfl) (by kernel_rfl) (by kernel_rfl) ?_ ?_
       · rfl
       simp only [Act.put, List.setIfInBounds_toArray, List.set_cons_zero, List.set_cons_succ])
  first
    | (refine h_run (i := 14) (v := ?_) hHeld rfl (by kernel_rfl) (by kernel_rfl) (by kernel_rfl) ?_ ?_ ?_
       rotate_left
       · rfl
       · (intro x hSx; (try dsimp only at hSx); go_simp <;> with_reducible rfl)
       simp only [Act.put, List.setIfInBounds_toArray, List.set_cons_zero, List.set_cons_succ])
    | (refine h_skip (i := 14) hHeld rfl (by kernel_rfl) (by kernel_rfl) (by kernel_rfl) ?_ ?_
       · rfl
       simp only [Act.put, List.setIfInBounds_toArray, List.set_cons_zero, List.set_cons_succ])
  first
    | (refine h_run (i := 15) (v := ?_) hHeld rfl (by kernel_rfl) (by kernel_rfl) (by kernel_rfl) ?_ ?_ ?_
       rotate_left
       · rfl
       · (intro x hSx; (try dsimp only at hSx); go_simp <;> with_reducible rfl)
       simp only [Act.put, List.setIfInBounds_toArray, List.set_cons_zero, List.set_cons_succ])
    | (refine h_skip (i := 15) hHeld rfl (by kernel_rfl) (by kernel_rfl) (by kernel_rfl) ?_ ?_
       · rfl
       simp only [Act.put, List.setIfInBounds_toArray, List.set_cons_zero, List.set_cons_succ])
  first
    | (refine h_run (i := 16) (v := ?_) hHeld rfl (by kernel_rfl) (by kernel_rfl) (by kernel_rfl) ?_ ?_ ?_
       rotate_left
       · rfl
       · (intro x hSx; (try dsimp only at hSx); go_simp <;> with_reducible rfl)
       simp only [Act.put, List.setIfInBounds_toArray, List.set_cons_zero, List.set_cons_succ])
    | (refine h_skip (i := 16) hHeld rfl (by kernel_rfl) (by kernel_rfl) (by kernel_rfl) ?_ ?_
       · rfl
       simp only [Act.put, List.setIfInBounds_toArray, List.set_cons_zero, List.set_cons_succ])
  first
    | (refine h_run (i := 17) (v := ?_) hHeld rfl (by kernel_rfl) (by kernel_rfl) (by kernel_rfl) ?_ ?_ ?_
       rotate_left
       · rfl
       · (intro x hSx; (try dsimp only at hSx); go_simp <;> with_reducible rfl)
       simp only [Act.put, List.setIfInBounds_toArray, List.set_cons_zero, List.set_cons_succ])
    | (refine h_skip (i := 17) hHeld rfl (by kernel_rfl) (by kernel_rfl) (by kernel_rfl) ?_ ?_
       · rfl
       simp only [Act.put, List.setIfInBounds_toArray, List.set_cons_zero, List.set_cons_succ])
  refine h_done (by kernel_rfl) ?_
  clear hHeld
  try simp only [Act.put, List.setIfInBounds_toArray, List.set_cons_zero, List.set_cons_succ]
  have hBw5 : Hid (Below w.heap.size w w5) := hide (hBW.out.trans (hB5.out.mono hBW.out.size))
  have c4 := hc4.out _ hBw5.out
  go_wp2_with fail
  refine (rs_decode c p K m b off cap lo I G cc (fun j => grD K In (I j)) w5 hcah.out (hph.out.below hBw5.out hph.out.lt) (hsh.out.below hBw5.out) h0 hk8 (by omega) hIh.out hih.out (fun r t => grD_bd K In hInh.out _ _) (rs_mds K I (by omega) (fun j hj => by have := hIh.out j hj; omega) (inc_inj I K hih.out))).mono ?_
  rintro e w6 ⟨g, rfl, hg, ⟨W0, D, hap⟩, hb6⟩
  have hBw6 : Hid (Below w.heap.size w w6) := hide (hBw5.out.trans (hb6.mono hBw5.out.size))
  have haph := Lib.hid hap
  clear c4 hap hb6
  have c4 := hc4.out _ hBw6.out
  go_upto_block 0 with (fail)
  obtain ⟨T0, hT0⟩ : ∃ T0, w6 = T0 := ⟨_, rfl⟩
  go_cut [] (fun wx => Hid ((∃ mm', WinAt wx x p base fr rdy d mm' (pq fi K m (.slice (some ⟨b, off, none⟩) K cap))) ∧ w6.grownBy wx (some x)))
  case first =>
    go_wp2_with fail
    go_loopw [8, 53] (fun v8 v53 wr => ∃ j : Nat, j ≤ K ∧ v53 = .int .i64 (j : Nat) ∧ Hid (Below w6.heap.size w6 wr)) (fun _ v53 _ => K - (intOf v53).toNat)
    case atStart => exact ⟨0, by omega, rfl, hide (Below.refl _ _)⟩
    case round =>
      obtain ⟨j, hj, rfl, hB⟩ := hrel
      by_cases hlt : j < K
      · have i1 : (j : Int) < (K : Int) := by omega
        have hBr : Hid (Below w.heap.size w wr) := hide (hBw6.out.trans (hB.out.mono hBw6.out.size))
        obtain ⟨e0, e1⟩ := ((hsh.out.below hBr.out).1.sdc) j hlt
        go_upto_region 8 with (fail)
        obtain ⟨W, hW⟩ : ∃ W, wr.alloc (.cells #[.int .i64 (I j : Nat), .slice (some ⟨G j, 0, none⟩) 2 (cc j)] 139) = W := ⟨_, rfl⟩
        have hblk : W.heap[wr.heap.size]? = some (.cells #[.int .i64 (I j : Nat), .slice (some ⟨G j, 0, none⟩) 2 (cc j)] 139 (0, 0)) := by rw [← hW]; exact Array.getElem?_push_size (xs := wr.heap)
        have b0 := (cell_of_block hblk).trans (show #[Value.int .i64 (I j : Nat), .slice (some ⟨G j, 0, none⟩) 2 (cc j)][0]? = some (.int .i64 (I j : Nat)) from rfl)
        have hBW2 : Hid (Below w6.heap.size w6 W) := hide (hW ▸ hB.out.alloc hB.out.size _)
        have hBWw : Hid (Below w.heap.size w W) := hide (hBw6.out.trans (hBW2.out.mono hBw6.out.size))
        have hwW := hwh.out.below hBWw.out
        have k2 := (hS.out _ hBWw.out).2.1
        have k9 := hwW.cells.2.2.2.2
        have f9 := hwW.frozen 229
        have iw2 : IntKind.i64.wrap ((j : Int) + 1) = ((j + 1 : Nat) : Int) := by rw [IntWalk.i64_in _ (by omega)]; omega
        have hR : Hid (∀ q, ∃ k : Nat, k ≤ K ∧ Value.int .i64 ((j + 1 : Nat) : Int) = .int .i64 (k : Nat) ∧ Hid (Below w6.heap.size w6 (W.drewN q))) := hide (fun q => ⟨j + 1, by omega, rfl, hide (below_drewN hBW2.out q)⟩)
        have hbr : Hid (∀ q z, (∃ mm', WinAt ((W.drewN q).setCell ⟨x, 229, none⟩ (.int .i64 z)) x p base fr rdy d mm' (pq fi K m (.slice (some ⟨b, off, none⟩) K cap))) ∧ w6.grownBy ((W.drewN q).setCell ⟨x, 229, none⟩ (.int .i64 z)) (some x)) := hide (fun q z => ⟨⟨_, WinAt.mended (hwW.below (below_drewN (Below.refl _ _) q)) _⟩, only_set (grown_below (below_drewN hBW2.out q) (some x)) 229 _⟩)
        have hWh := Lib.hid hW
        clear hblk hW e0 e1 hwW c4
        rw [hWh.out]
        by_cases hge : K ≤ I j
        · have g0 : decide ((K : Int) ≤ (I j : Int)) = true := decide_eq_true (by omega)
          have g1 : decide (K ≤ I j) = true := decide_eq_true hge
          have g2 : (K : Int) ≤ (I j : Int) := by omega
          go_quiet (fail)
          go_wp2_with fail
          go_meet
          exact hide (hbr.out _ _)
        · have g0 : decide ((K : Int) ≤ (I j : Int)) = false := decide_eq_false (by omega)
          have g1 : decide (K ≤ I j) = false := decide_eq_false hge
          have g2 : ¬ (K : Int) ≤ (I j : Int) := by omega
          go_quiet (fail)
          go_wp2_with fail
          refine ⟨?_, ?_⟩
          rotate_left
          · simp [intOf]; omega
          first
            | exact hR.out _
            | (repeat (apply Exists.intro)
               exact ⟨hR.out _, rfl⟩)
      · obtain rfl : j = K := by omega
        have i1 : decide ((j : Int) < (j : Int)) = false := by simp
        have hfin : Hid ((∃ mm', WinAt wr x p base fr rdy d mm' (pq fi j m (.slice (some ⟨b, off, none⟩) j cap))) ∧ w6.grownBy wr (some x)) := hide ⟨⟨mm, hwh.out.below (hBw6.out.trans (hB.out.mono hBw6.out.size))⟩, hB.out.os, hB.out.tape, hB.out.output, hB.out.size, fun i hi _ => hB.out.block i hi⟩
        clear c4
        go_wp2_with fail
        go_meet
        exact hfin
  case rest =>
    obtain ⟨⟨mm', hwc⟩, hgc⟩ := hcut.out
    have hx6 : x < w6.heap.size := Nat.lt_of_lt_of_le hwh.out.lt hBw6.out.size
    have hpc := hwc.part hb
    rw [ho] at hpc
    have c5 : wc.cell? ⟨x, o + 5, none⟩ = some (.slice none 0 0) := hpc 5 (by omega)
    have c6 : wc.cell? ⟨x, o + 6, none⟩ = some (.bool false) := hpc 6 (by omega)
    have f5 := hwc.frozen (o + 5)
    have f6 := hwc.frozen (o + 6)
    have q1 := hwc.put hb 5 (by omega) (.slice none 0 0)
    have q2 := q1.put hb 6 (by omega) (.bool true)
    rw [ho] at q1 q2
    have hg2 := only_set (only_set hgc (o + 5) (.slice none 0 0)) (o + 6) (.bool true)
    have hq2h := Lib.hid q2
    have hg2h := Lib.hid hg2
    clear q1 q2 hg2 hpc hwc hgc hcut c4
    go_upto_region 12 with (fail)
    obtain ⟨W1, hW1⟩ : ∃ W1, (wc.setCell ⟨x, o + 5, none⟩ (.slice none 0 0)).setCell ⟨x, o + 6, none⟩ (.bool true) = W1 := ⟨_, rfl⟩
    rw [hW1] at hq2h hg2h ⊢
    clear hW1 c5 c6 f5 f6
    have hsha := Lib.hid (ap_sh haph.out (ml_bd _ _ _) hg2h.out (by have := hg; have := hwh.out.lt; have := hBw5.out.size; omega))
    go_wp2_with fail
    refine (s_inputs K K (some ⟨g, 0, none⟩) K (fun i => [mlF (ivS (pkF (rsF K) I) K K).2 (fun j => grD K In (I j)) K i 0, mlF (ivS (pkF (rsF K) I) K K).2 (fun j => grD K In (I j)) K i 1]) W1 hsha.out (Nat.le_refl _) (by omega) (fun _ _ => rfl) (fun h => absurd h (Nat.lt_irrefl _))).mono ?_
    rintro e W2 (⟨_, v, rfl, hov, hb2⟩ | ⟨h, _⟩)
    rotate_left
    · exact absurd h (Nat.lt_irrefl _)
    have hw2 := hq2h.out.below hb2
    have hpc := hw2.part hb
    rw [ho] at hpc
    have c5 : W2.cell? ⟨x, o + 5, none⟩ = some (.slice none 0 0) := hpc 5 (by omega)
    have f5 := hw2.frozen (o + 5)
    have q1 := hw2.put hb 5 (by omega) v
    rw [ho] at q1
    have hxW : x < W1.heap.size := hq2h.out.lt
    have hgw : w.grownBy (W2.setCell ⟨x, o + 5, none⟩ v) (some x) := only_set (only_trans (only_trans (only_trans (only_refl w (some x)) ⟨hBw6.out.os, hBw6.out.tape, hBw6.out.output, hBw6.out.size, fun i hi _ => hBw6.out.block i hi⟩) hg2h.out) ⟨hb2.os, hb2.tape, hb2.output, hb2.size, fun i hi _ => hb2.block i hi⟩) (o + 5) v
    have hsw : w.heap.size ≤ W1.heap.size := Nat.le_trans hBw6.out.size hg2h.out.size
    have hov2 : OwnZ (W2.setCell ⟨x, o + 5, none⟩ v) w.heap.size 34 .u16 v K (fun i => (In i : Nat)) := own_base2 (own_kept (hov.congr (fun j hj => by
      rw [in_back K (by omega) In hInh.out I (fun j hj => by have := hIh.out j hj; omega) (inc_inj I K hih.out) j hj])) (fun b hb => by
      obtain ⟨h1, h2⟩ := hov.lt b hb
      exact (only_set (only_refl W2 (some x)) (o + 5) v).block b h2 (fun e => by have := Option.some.inj e; omega))) hsw
    obtain ⟨s, cp, rfl⟩ : ∃ s cp, v = .slice s K cp := by
      obtain ⟨s, cp, h, _⟩ := hov.open
      exact ⟨s, cp, h⟩
    have hend : Hid (MendPost w x p base fr fi K m rdy (.slice (some ⟨b, off, none⟩) K cap) d In (.returned (.tuple #[])) (W2.setCell ⟨x, o + 5, none⟩ (.slice s K cp))) := hide ⟨rfl, _, _, q1.congr (fun j hj => by
      rcases j with _ | _ | _ | _ | _ | _ | _ | j
      · rfl
      · rfl
      · rfl
      · rfl
      · rfl
      · rfl
      · rfl
      · omega), hov2, hgw⟩
    clear q1 hgw hov2 hov hw2 hpc hb2 hsha
    go_wp2_with fail
    refine bodyPost_ret (results_none rfl _ _ _) rfl ?_
    exact hend.out
end Go.Proofs.Ytmfagdbocidfjaa

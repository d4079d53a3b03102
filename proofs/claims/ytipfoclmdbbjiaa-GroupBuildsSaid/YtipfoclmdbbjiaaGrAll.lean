import Derived.Test.YtipfoclmdbbjiaaU29
import Derived.Test.YtipfoclmdbbjiaaAgg
/- What the law GroupAll's loop keeps: the builder, all that came, all that was told. Lemmas alone. -/
namespace Go.Proofs.Ytipfoclmdbbjiaa
open Go.RowKit
set_option maxRecDepth 100000 in
theorem agg3 {k0 k1 k2 : IntKind} {v : Value} (h : IsAgg [some k0, some k1, some k2] v) : ∃ x y z, v = .agg #[.int k0 x, .int k1 y, .int k2 z] ∧ (Lit.int k0 x).wf = true ∧ (Lit.int k1 y).wf = true ∧ (Lit.int k2 z).wf = true := by
  obtain ⟨cs, rfl, hs, hc⟩ := h
  obtain ⟨u0, h0, x, rfl, w0⟩ := hc 0 _ rfl
  obtain ⟨u1, h1, y, rfl, w1⟩ := hc 1 _ rfl
  obtain ⟨u2, h2, z, rfl, w2⟩ := hc 2 _ rfl
  refine ⟨x, y, z, ?_, w0, w1, w2⟩
  congr 1
  apply Array.ext_getElem?
  intro i
  rcases Nat.lt_or_ge i 3 with h | h
  · have : i = 0 ∨ i = 1 ∨ i = 2 := by omega
    rcases this with rfl | rfl | rfl
    · rw [h0]; rfl
    · rw [h1]; rfl
    · rw [h2]; rfl
  · rw [Array.getElem?_eq_none (by simp at hs; omega), Array.getElem?_eq_none (by simpa using h)]
/-- the script -/
structure GOp where
  tick : Bool
  inp : Nat
  loss : Int
def GopsAt (w : World) (a : Option Addr) (len : Nat) (g : Nat → GOp) : Prop := ∀ i, i < len → ∃ b off, a = some ⟨b, off, none⟩ ∧
  w.cell? ⟨b, off + i * 3, none⟩ = some (.bool (g i).tick) ∧ w.cell? ⟨b, off + i * 3 + 1, none⟩ = some (.int .u16 ((g i).inp : Nat)) ∧ w.cell? ⟨b, off + i * 3 + 2, none⟩ = some (.int .i64 (g i).loss) ∧ (g i).inp < 65536
set_option maxRecDepth 100000 in
theorem GopsAt.below {w w' : World} {a : Option Addr} {len : Nat} {g : Nat → GOp} (h : GopsAt w a len g) (hb : Below w.heap.size w w') : GopsAt w' a len g := fun i hi => by
  obtain ⟨b, off, ha, c0, c1, c2, c3⟩ := h i hi
  have hl : b < w.heap.size := cell_block_lt c0
  exact ⟨b, off, ha, (hb.cell (p := ⟨b, off + i * 3, none⟩) hl).trans c0, (hb.cell (p := ⟨b, off + i * 3 + 1, none⟩) hl).trans c1, (hb.cell (p := ⟨b, off + i * 3 + 2, none⟩) hl).trans c2, c3⟩
set_option maxRecDepth 100000 in
theorem gops_open {w : World} {a : Option Addr} {len cap : Nat} (h : IsRec [none, some .u16, some .i64] w a len cap) : ∃ g, GopsAt w a len g := by
  obtain ⟨f, hk, hc, _⟩ := h
  have key : ∀ i, ∃ o : GOp, i < len → f i 0 = .bool o.tick ∧ f i 1 = .int .u16 (o.inp : Nat) ∧ f i 2 = .int .i64 o.loss ∧ o.inp < 65536 := by
    intro i
    by_cases hi : i < len
    · obtain ⟨t, h0⟩ := (hk i 0 none hi rfl).bool
      obtain ⟨x, h1, w1⟩ := (hk i 1 (some .u16) hi rfl).int
      obtain ⟨n, h2, w2⟩ := (hk i 2 (some .i64) hi rfl).int
      have hx : 0 ≤ x ∧ x ≤ 65535 := by simpa [Lit.wf, IntKind.min, IntKind.max, IntKind.signed, IntKind.bits] using w1
      refine ⟨⟨t, x.toNat, n⟩, fun _ => ⟨h0, ?_, h2, ?_⟩⟩
      · rw [h1]; congr 1; show x = ((x.toNat : Nat) : Int); omega
      · show x.toNat < 65536; omega
    · exact ⟨⟨false, 0, 0⟩, fun h => absurd h hi⟩
  refine ⟨fun i => (key i).choose, fun i hi => ?_⟩
  obtain ⟨h0, h1, h2, h3⟩ := (key i).choose_spec hi
  obtain ⟨b, off, ha, hcell⟩ := hc i hi
  refine ⟨b, off, ha, ?_, ?_, ?_, h3⟩
  · rw [← h0]; exact hcell 0 (by decide)
  · rw [← h1]; exact hcell 1 (by decide)
  · rw [← h2]; exact hcell 2 (by decide)
/-! ### the plain law: what came is what was told, and what waits -/
structure AInv (s : GbS) (c : Nat) (C : Nat → Nat) (T size age : Nat) : Prop where
  ok : GbOk s
  sz : s.size = size
  ag : s.age = age
  hn : s.n < size
  ho : s.old < age
  fi : s.fi = T
  hc : c = T + s.n
  hI : ∀ j, j < s.n → s.I j = C (T + j)
  hm : c ≤ 60
def AOut (s : GbS) (o : Option (Nat × Nat × Nat × Nat × (Nat → Nat))) (c : Nat) (C : Nat → Nat) (T size age : Nat) : Prop :=
  match o with
  | none => AInv s c C T size age
  | some (_, fi, K, _, I) => fi = T ∧ 1 ≤ K ∧ K ≤ size ∧ T + K ≤ 60 ∧ (∀ j, j < K → I j = C (T + j)) ∧ (∀ j, I j < 65536) ∧ AInv s c C (T + K) size age
set_option maxRecDepth 100000 in
theorem AInv.start (size age : Nat) (most : Int) (s0 : 1 ≤ size) (s1 : size ≤ 16) (a0 : 1 ≤ age) (a1 : age ≤ 4096) (m0 : 0 ≤ most) (m1 : most ≤ 16) : AInv ⟨⟨0, most, 0⟩, size, age, 0, 0, 0, 0, fun _ => 0⟩ 0 (fun _ => 0) 0 size age :=
  ⟨⟨⟨by simp, by simp, m0, m1, by simp, by simp⟩, s0, s1, a0, a1, by simp, by simp, by simp, by simp, fun _ => by simp⟩, rfl, rfl, s0, a0, rfl, rfl, fun j hj => absurd hj (by simp), by simp⟩
set_option maxRecDepth 100000 in
theorem aclose {s : GbS} {c T size age : Nat} {C : Nat → Nat} (loss : Int) (ok : GbOk s) (hsz : s.size = size) (hag : s.age = age) (h1 : 1 ≤ s.n) (hn : s.n ≤ size) (hfi : s.fi = T) (hc : c = T + s.n) (hI : ∀ j, j < s.n → s.I j = C (T + j)) (hm : c ≤ 60) :
    AOut (gbClo s loss) (some (gbGrp s loss)) c C T size age := by
  have ok2 := ok.clo loss
  refine ⟨hfi, h1, hn, by omega, hI, ok.I, ok2, hsz, hag, ?_, ?_, ?_, ?_, fun j hj => absurd hj (by show ¬ j < 0; omega), hm⟩
  · show 0 < size; have := ok.s0; omega
  · show 0 < age; have := ok.a0; omega
  · show (s.fi + s.n) % 4294967296 = T + s.n; rw [hfi]; omega
  · show c = T + s.n + 0; omega
set_option maxRecDepth 100000 in
theorem AInv.tick {s : GbS} {c T size age : Nat} {C : Nat → Nat} (h : AInv s c C T size age) (loss : Int) : AOut (gbTick s loss).1 (gbTick s loss).2 c C T size age := by
  unfold gbTick
  by_cases h0 : s.n = 0
  · rw [if_pos h0]; exact h
  · rw [if_neg h0]
    by_cases h1 : s.old + 1 < s.age
    · rw [if_pos h1]
      exact ⟨h.ok.oldS (by have := h.ag; have := h.ho; omega), h.sz, h.ag, h.hn, by show s.old + 1 < age; have := h.ag; omega, h.fi, h.hc, h.hI, h.hm⟩
    · rw [if_neg h1]
      exact aclose loss (h.ok.oldS (by have := h.ag; have := h.ho; omega)) h.sz h.ag (by show 1 ≤ s.n; omega) (by show s.n ≤ size; have := h.hn; omega) h.fi h.hc h.hI h.hm
set_option maxRecDepth 100000 in
theorem AInv.add {s : GbS} {c T size age : Nat} {C : Nat → Nat} (h : AInv s c C T size age) (x : Nat) (hx : x < 65536) (loss : Int) (hm : c < 60) : AOut (gbAdd s x loss).1 (gbAdd s x loss).2 (c + 1) (fun j => if j = c then x else C j) T size age := by
  have hI : ∀ j, j < s.n + 1 → (if j = s.n then x else s.I j) = if T + j = c then x else C (T + j) := fun j hj => by
    have hc := h.hc
    by_cases e : j = s.n
    · rw [if_pos e, if_pos (by omega)]
    · rw [if_neg e, if_neg (by omega)]
      exact h.hI j (by omega)
  have ok2 := h.ok.addS hx (by rw [h.sz]; exact h.hn)
  unfold gbAdd
  by_cases h1 : (gbAddS s x).n < s.size
  · rw [if_pos h1]
    exact ⟨ok2, h.sz, h.ag, by have := h.sz; show s.n + 1 < size; have : s.n + 1 < s.size := h1; omega, h.ho, h.fi, by have := h.hc; show c + 1 = T + (s.n + 1); omega, hI, by omega⟩
  · rw [if_neg h1]
    exact aclose loss ok2 h.sz h.ag (by show 1 ≤ s.n + 1; omega) (by show s.n + 1 ≤ size; have := h.hn; omega) h.fi (by have := h.hc; show c + 1 = T + (s.n + 1); omega) hI (by omega)
/-! ### the world -/
/-- rows of unlike blocks -/
def dj (a b : Value) : Prop := ∀ q, a.ownBlock = some q → b.ownBlock ≠ some q
set_option maxRecDepth 100000 in
theorem dj.left {a a' b : Value} {n : Nat} (h : dj a b) (ha : ∀ q, a'.ownBlock = some q → a.ownBlock = some q ∨ n ≤ q) (hb : ∀ q, b.ownBlock = some q → q < n) : dj a' b := fun q hq => by
  rcases ha q hq with h1 | h1
  · exact h q h1
  · exact fun e => by have := hb q e; omega
set_option maxRecDepth 100000 in
theorem dj.symm {a b : Value} (h : dj a b) : dj b a := fun q hq e => h q e hq
structure AlAt (wr w : World) (bp tb cp : Nat) (z : Array Value) (s : GbS) (v v7 v8 : Value) (c T : Nat) (C : Nat → Nat) : Prop where
  bat : BAt wr bp tb cp w.heap.size s v
  came : OwnZ wr w.heap.size 39 .u16 v7 c (fun j => (C j : Nat))
  told : OwnZ wr w.heap.size 39 .u16 v8 T (fun j => (C j : Nat))
  d7 : dj v v7
  d8 : dj v v8
  d78 : dj v7 v8
  box : wr.heap[w.heap.size]? = some (.cells z 23 (0, 0))
  lo : Below w.heap.size w wr
  hbp : w.heap.size ≤ bp
  hcp : w.heap.size ≤ cp
set_option maxRecDepth 100000 in
theorem BAt.kept {w w' : World} {bp tb cp base : Nat} {s : GbS} {v : Value} {row : Option Nat} (h : BAt w bp tb cp base s v) (hg : w.grownBy w' row) (h1 : row ≠ some bp) (h2 : row ≠ some tb) (h3 : row ≠ some cp) (h4 : v.ownBlock = none ∨ v.ownBlock ≠ row) : BAt w' bp tb cp base s v :=
  ⟨(hg.block bp h.lt (fun e => h1 e.symm)).trans h.b, h.own.kept2 hg h4, (hg.block tb h.gf.lt (fun e => h2 e.symm)).trans h.gf, (hg.block cp h.ct.lt (fun e => h3 e.symm)).trans h.ct⟩
set_option maxRecDepth 100000 in
theorem own_ltZ {w : World} {base n : Nat} {T : TypeId} {k : IntKind} {v : Value} {f : Nat → Int} (h : OwnZ w base T k v n f) : ∀ q, v.ownBlock = some q → q < w.heap.size := fun q hq => (h.lt q hq).2
set_option maxRecDepth 100000 in
/-- another type's block is no row of inputs -/
theorem own_neZ {w : World} {base n : Nat} {v : Value} {f : Nat → Int} (h : OwnZ w base 39 .u16 v n f) {q : Nat} {c : Array Value} {T : TypeId} {fr : Nat × Nat} (hq : w.heap[q]? = some (.cells c T fr)) (hT : T ≠ 39) : v.ownBlock ≠ some q := fun e => by
  obtain ⟨cur, f2, h1⟩ := own_type h q e
  exact ty_ne h1 hq (fun e2 => hT e2.symm) rfl
set_option maxRecDepth 100000 in
theorem dj_or {a b : Value} (h : dj a b) : a.ownBlock = none ∨ a.ownBlock ≠ b.ownBlock := by
  rcases ha : a.ownBlock with _ | q
  · exact .inl rfl
  · exact .inr (fun e => h q ha e.symm)
section
variable {wr w : World} {bp tb cp : Nat} {z : Array Value} {s : GbS} {v v7 v8 : Value} {c T : Nat} {C : Nat → Nat}
set_option maxRecDepth 100000 in
theorem AlAt.below (h : AlAt wr w bp tb cp z s v v7 v8 c T C) {w2 : World} (hb : Below wr.heap.size wr w2) : AlAt w2 w bp tb cp z s v v7 v8 c T C :=
  ⟨h.bat.below hb, h.came.below hb, h.told.below hb, h.d7, h.d8, h.d78, (hb.block _ (Array.getElem?_eq_some_iff.1 h.box).1).trans h.box, h.lo.trans (hb.mono h.lo.size), h.hbp, h.hcp⟩
set_option maxRecDepth 100000 in
/-- what came is appended to -/
theorem AlAt.cameS (h : AlAt wr w bp tb cp z s v v7 v8 c T C) {w2 : World} {v' : Value} {c' : Nat} {C' : Nat → Nat} (ho : OwnZ w2 w.heap.size 39 .u16 v' c' (fun j => (C' j : Nat))) (hg : wr.grownBy w2 v7.ownBlock) (hf : ∀ q, v'.ownBlock = some q → v7.ownBlock = some q ∨ wr.heap.size ≤ q) (hC : ∀ j, j < T → C' j = C j) :
    AlAt w2 w bp tb cp z s v v' v8 c' T C' :=
  ⟨h.bat.kept hg (own_neZ h.came h.bat.b (by decide)) (own_neZ h.came h.bat.gf (by decide)) (own_neZ h.came h.bat.ct (by decide)) (dj_or h.d7), ho, (h.told.kept2 hg (dj_or h.d78.symm)).congr (fun j hj => by rw [hC j hj]),
    (h.d7.symm.left hf (own_ltZ h.bat.own)).symm, h.d8, h.d78.left hf (own_ltZ h.told), (hg.block _ (Array.getElem?_eq_some_iff.1 h.box).1 (fun e => own_neZ h.came h.box (by decide) e.symm)).trans h.box,
    below_grown h.lo (Nat.le_refl _) hg (fun q hq => (h.came.lt q hq).1), h.hbp, h.hcp⟩
set_option maxRecDepth 100000 in
/-- what was told is appended to -/
theorem AlAt.toldS (h : AlAt wr w bp tb cp z s v v7 v8 c T C) {w2 : World} {v' : Value} {T' : Nat} (ho : OwnZ w2 w.heap.size 39 .u16 v' T' (fun j => (C j : Nat))) (hg : wr.grownBy w2 v8.ownBlock) (hf : ∀ q, v'.ownBlock = some q → v8.ownBlock = some q ∨ wr.heap.size ≤ q) :
    AlAt w2 w bp tb cp z s v v7 v' c T' C :=
  ⟨h.bat.kept hg (own_neZ h.told h.bat.b (by decide)) (own_neZ h.told h.bat.gf (by decide)) (own_neZ h.told h.bat.ct (by decide)) (dj_or h.d8), h.came.kept2 hg (dj_or h.d78), ho,
    h.d7, (h.d8.symm.left hf (own_ltZ h.bat.own)).symm, (h.d78.symm.left hf (own_ltZ h.came)).symm, (hg.block _ (Array.getElem?_eq_some_iff.1 h.box).1 (fun e => own_neZ h.told h.box (by decide) e.symm)).trans h.box,
    below_grown h.lo (Nat.le_refl _) hg (fun q hq => (h.told.lt q hq).1), h.hbp, h.hcp⟩
set_option maxRecDepth 100000 in
/-- a call on the builder -/
theorem AlAt.call (h : AlAt wr w bp tb cp z s v v7 v8 c T C) {w2 : World} {s' : GbS} {o : Option (Nat × Nat × Nat × Nat × (Nat → Nat))} {e : Ending} (hp : GbPost wr bp tb cp w.heap.size v s' o e w2) : ∃ v', AlAt w2 w bp tb cp z s' v' v7 v8 c T C ∧ GpOut wr o e w2 ∧ Kb wr w2 bp cp v := by
  obtain ⟨v', h1, h2, h3, h4⟩ := hp
  have keepZ : ∀ {u : Value} {n : Nat} {f : Nat → Int}, OwnZ wr w.heap.size 39 .u16 u n f → dj v u → OwnZ w2 w.heap.size 39 .u16 u n f := fun {u n f} hu hd => by
    refine ⟨hu.1, ?_⟩
    rcases hu.2 with h5 | ⟨g, cap, cur, hv, hb, hg, hr⟩
    · exact .inl h5
    · have hob : u.ownBlock = some g := by rw [hv]; rfl
      refine .inr ⟨g, cap, cur, hv, hb, (h3.block g (Array.getElem?_eq_some_iff.1 hg).1 (ty_ne hg h.bat.b (by decide)) (ty_ne hg h.bat.ct (by decide)) (fun e => hd g e hob)).trans hg, hr⟩
  refine ⟨v', ⟨h1, keepZ h.came h.d7, keepZ h.told h.d8, h.d7.left h2 (own_ltZ h.came), h.d8.left h2 (own_ltZ h.told), h.d78, ?_, ?_, h.hbp, h.hcp⟩, h4, h3⟩
  · exact (h3.block _ (Array.getElem?_eq_some_iff.1 h.box).1 (ty_ne h.box h.bat.b (by decide)) (ty_ne h.box h.bat.ct (by decide)) (fun e => h.bat.own_ne h.box (by decide) e)).trans h.box
  · exact h3.to_below h.lo h.lo.size h.hbp h.hcp (fun q hq => (h.bat.own.lt q hq).1)
set_option maxRecDepth 100000 in
/-- a group's box is written -/
theorem AlAt.boxG (h : AlAt wr w bp tb cp z s v v7 v8 c T C) {q : Nat} {D0 : Array Value} (hq : wr.heap[q]? = some (.cells D0 48 (0, 0))) (hqw : w.heap.size ≤ q) (D : Array Value) : AlAt (wr.setRow q D) w bp tb cp z s v v7 v8 c T C := by
  have hg : wr.grownBy (wr.setRow q D) (some q) := only_setRow (only_refl wr _) (.inl rfl) _
  refine ⟨h.bat.kept hg (fun e => ty_ne hq h.bat.b (by decide) (by injection e)) (fun e => ty_ne hq h.bat.gf (by decide) (by injection e)) (fun e => ty_ne hq h.bat.ct (by decide) (by injection e)) (.inr (fun e => h.bat.own_ne hq (by decide) e)), h.came.kept2 hg (.inr (own_neZ h.came hq (by decide))), h.told.kept2 hg (.inr (own_neZ h.told hq (by decide))), h.d7, h.d8, h.d78, ?_, below_setRow h.lo hqw D, h.hbp, h.hcp⟩
  exact (setRow_other wr q _ D (ty_ne h.box hq (by decide))).trans h.box
end
/-- the rows of a group that are inputs, as lists -/
def grL (I : Nat → Nat) (i : Nat) : List Nat := [I i / 256, I i % 256]
set_option maxRecDepth 100000 in
theorem OwnS.shAt {w : World} {base K m cap : Nat} {sd : Option Addr} {I : Nat → Nat} (h : OwnS w base (.slice sd (K + m) cap) (K + m) 2 (grD K I)) (hI : ∀ j, I j < 65536) : ShAt w sd K (grL I) := by
  obtain ⟨A, h1, h2⟩ := h
  intro i hi
  rcases h1.2 with ⟨h3, h4⟩ | ⟨g, cap', cur, hv, hb, hg, q1, q2, q3, q4⟩
  · omega
  · injection hv with hv1 hv2 hv3
    subst hv1
    obtain ⟨b, k, e1, e2, e3, e4, e5⟩ := h2 i (by omega)
    refine ⟨g, 0, some ⟨b, 0, none⟩, k, rfl, ?_, ?_, ?_, e4, e5⟩
    · rw [Nat.zero_add, cell_of_block hg]
      have e : ((List.range (K + m)).map A)[i]? = some (A i) := by simp [show i < K + m by omega]
      rw [← q4, List.getElem?_take, if_pos (by omega), Array.getElem?_toList] at e
      rw [e, e1]
      rfl
    · intro j x hj
      have hr : ∀ t, grD K I i t = inV I i t := fun t => by unfold grD catV; rw [if_pos hi]
      have hj2 : j < 2 := (List.getElem?_eq_some_iff.1 hj).1
      refine ⟨b, 0, rfl, ?_⟩
      rw [Nat.zero_add]
      have hc : w.cell? ⟨b, j, none⟩ = some (.int .u8 ((grD K I i j : Nat) : Int)) := FRow.cell e3 j hj2
      rw [hc, hr]
      have : j = 0 ∨ j = 1 := by omega
      rcases this with rfl | rfl
      · simp [grL] at hj; subst hj; rfl
      · simp [grL] at hj; subst hj; rfl
    · intro x hx
      have := hI i
      simp [grL] at hx
      rcases hx with rfl | rfl <;> omega
set_option maxRecDepth 100000 in
theorem grL_len (I : Nat → Nat) (i : Nat) : (grL I i).length = 2 := rfl
set_option maxRecDepth 100000 in
theorem grL_w (I : Nat → Nat) (i : Nat) : inW (grL I) i = I i := by
  unfold inW grL getN
  simp
  omega
set_option maxRecDepth 100000 in
theorem BAt.base {w : World} {bp tb cp base b' : Nat} {s : GbS} {v : Value} (h : BAt w bp tb cp base s v) (hb : b' ≤ base) : BAt w bp tb cp b' s v := ⟨h.b, h.own.base hb, h.gf, h.ct⟩
/-- the joined outcome of a round's call -/
def ACut (wx w : World) (bp tb cp q : Nat) (z : Array Value) (i T size age : Nat) (v8 v7 v11 : Value) : Prop :=
  ∃ (s : GbS) (v : Value) (c : Nat) (C : Nat → Nat), c ≤ i + 1 ∧ AlAt wx w bp tb cp z s v v7 v8 c T C ∧
    ((v11 = .bool false ∧ AInv s c C T size age) ∨
     ∃ (no K m : Nat) (I : Nat → Nat) (b off cap : Nat), v11 = .bool true ∧ AOut s (some (no, T, K, m, I)) c C T size age ∧ K + m ≤ cap ∧ cap ≤ maxLen ∧
      wx.heap[q]? = some (.cells #[.int .u32 (no : Nat), .int .u32 (T : Nat), .int .i64 (K : Nat), .int .i64 (m : Nat), .slice (some ⟨b, off, none⟩) (K + m) cap] 48 (0, 0)) ∧ ShAt wx (some ⟨b, off, none⟩) K (grL I))
set_option maxRecDepth 100000 in
theorem ACut.none {wr w : World} {bp tb cp q : Nat} {z : Array Value} {i T size age c : Nat} {s' : GbS} {v v7 v8 : Value} {C : Nat → Nat} {D0 : Array Value} (D : Array Value) (hA : AlAt wr w bp tb cp z s' v v7 v8 c T C) (hi : AInv s' c C T size age) (hc : c ≤ i + 1) (hq : wr.heap[q]? = some (.cells D0 48 (0, 0))) (hqw : w.heap.size ≤ q) :
    ACut (wr.setRow q D) w bp tb cp q z i T size age v8 v7 (.bool false) := ⟨s', v, c, C, hc, hA.boxG hq hqw D, .inl ⟨rfl, hi⟩⟩
set_option maxRecDepth 100000 in
theorem ACut.some {wr w : World} {bp tb cp q : Nat} {z : Array Value} {i T size age c no fi K m cap base : Nat} {s' : GbS} {v v7 v8 : Value} {C I : Nat → Nat} {D0 : Array Value} {sd : Option Addr} (hA : AlAt wr w bp tb cp z s' v v7 v8 c T C) (hi : AOut s' (some (no, fi, K, m, I)) c C T size age) (hc : c ≤ i + 1) (hq : wr.heap[q]? = some (.cells D0 48 (0, 0))) (hqw : w.heap.size ≤ q)
    (ho : OwnS wr base (.slice sd (K + m) cap) (K + m) 2 (grD K I)) :
    ACut (wr.setRow q #[.int .u32 (no : Nat), .int .u32 (fi : Nat), .int .i64 (K : Nat), .int .i64 (m : Nat), .slice sd (K + m) cap]) w bp tb cp q z i T size age v8 v7 (.bool true) := by
  obtain ⟨rfl, h2, h3, h4, h5, h6, h7⟩ := hi
  have ho2 := own_setG ho hq (by decide) (by decide) #[.int .u32 (no : Nat), .int .u32 (fi : Nat), .int .i64 (K : Nat), .int .i64 (m : Nat), .slice sd (K + m) cap]
  obtain ⟨s2, cap2, e, hr, hcap, hml, _⟩ := ho2.open
  injection e with e1 e2 e3
  subst e1
  subst e3
  obtain ⟨b, off, _, _, hsd, _⟩ := hr 0 (by omega)
  subst hsd
  exact ⟨s', v, c, C, hc, hA.boxG hq hqw _, .inr ⟨no, K, m, I, b, off, cap, rfl, ⟨rfl, h2, h3, h4, h5, h6, h7⟩, hcap, hml, setRow_heap _ _ _ _ _ _ hq, ho2.shAt h6⟩⟩
set_option maxRecDepth 100000 in
theorem told_cat {T K : Nat} {C I : Nat → Nat} (h : ∀ j, j < K → I j = C (T + j)) : ∀ j, j < T + K → catZ T (fun j => ((C j : Nat) : Int)) (fun i => ((inW (grL I) i : Nat) : Int)) j = ((C j : Nat) : Int) := fun j hj => by
  unfold catZ
  by_cases e : j < T
  · rw [if_pos e]
  · rw [if_neg e]
    show ((inW (grL I) (j - T) : Nat) : Int) = _
    rw [grL_w, h (j - T) (by omega), show T + (j - T) = j by omega]
end Go.Proofs.Ytipfoclmdbbjiaa

import Derived.Test.YtipfoclmdbbjiaaGrRD
import Derived.Test.YtipfoclmdbbjiaaGrSame2
import Derived.Test.YtipfoclmdbbjiaaGrAll
/- What the law GroupBuilds' loop keeps: the two builders; the answers as rows. Lemmas alone. -/
namespace Go.Proofs.Ytipfoclmdbbjiaa
open Go.RowKit
/-- a group's row, and whether there is one -/
def OutAt (w : World) (base : Nat) (o : Option (Nat × Nat × Nat × Nat × (Nat → Nat))) (row : Array Value) (b : Bool) : Prop :=
  match o with
  | none => row = #[.int .u32 0, .int .u32 0, .int .i64 0, .int .i64 0, .slice none 0 0] ∧ b = false
  | some (no, fi, K, m, I) => ∃ sd cap, row = #[.int .u32 (no : Nat), .int .u32 (fi : Nat), .int .i64 (K : Nat), .int .i64 (m : Nat), .slice sd (K + m) cap] ∧ b = true ∧ OwnS w base (.slice sd (K + m) cap) (K + m) 2 (grD K I)
set_option maxRecDepth 100000 in
theorem OutAt.below {w w' : World} {base : Nat} {o : Option (Nat × Nat × Nat × Nat × (Nat → Nat))} {row : Array Value} {b : Bool} (h : OutAt w base o row b) (hb : Below w.heap.size w w') : OutAt w' base o row b := by
  rcases o with _ | ⟨no, fi, K, m, I⟩
  · exact h
  · obtain ⟨sd, cap, h1, h2, h3⟩ := h
    exact ⟨sd, cap, h1, h2, h3.below hb⟩
set_option maxRecDepth 100000 in
theorem OutAt.base {w : World} {base b' : Nat} {o : Option (Nat × Nat × Nat × Nat × (Nat → Nat))} {row : Array Value} {b : Bool} (h : OutAt w base o row b) (hb : b' ≤ base) : OutAt w b' o row b := by
  rcases o with _ | ⟨no, fi, K, m, I⟩
  · exact h
  · obtain ⟨sd, cap, h1, h2, h3⟩ := h
    exact ⟨sd, cap, h1, h2, h3.base hb⟩
set_option maxRecDepth 100000 in
theorem OutAt.form {w : World} {base : Nat} {o : Option (Nat × Nat × Nat × Nat × (Nat → Nat))} {row : Array Value} {b : Bool} (h : OutAt w base o row b) : ∃ (n0 n1 n2 n3 : Int) (s : Option Addr) (L c : Nat), row = #[.int .u32 n0, .int .u32 n1, .int .i64 n2, .int .i64 n3, .slice s L c] := by
  rcases o with _ | ⟨no, fi, K, m, I⟩
  · exact ⟨0, 0, 0, 0, none, 0, 0, h.1⟩
  · obtain ⟨sd, cap, h1, _⟩ := h
    exact ⟨_, _, _, _, _, _, _, h1⟩
set_option maxRecDepth 100000 in
theorem OutAt.size {w : World} {base : Nat} {o : Option (Nat × Nat × Nat × Nat × (Nat → Nat))} {row : Array Value} {b : Bool} (h : OutAt w base o row b) : row.size = 5 ∧ Plain row := by
  obtain ⟨n0, n1, n2, n3, s, L, c, rfl⟩ := h.form
  exact ⟨rfl, gg_plain _ _ _ _ _ _ _ _ _ _ _⟩
set_option maxRecDepth 100000 in
/-- a row of another type is written -/
theorem OutAt.keptT {w w' : World} {base q : Nat} {o : Option (Nat × Nat × Nat × Nat × (Nat → Nat))} {row : Array Value} {b : Bool} {C : Array Value} {T : TypeId} {fr : Nat × Nat} (h : OutAt w base o row b) (hg : w.grownBy w' (some q)) (hq : w.heap[q]? = some (.cells C T fr)) (h1 : T ≠ 58) (h2 : T ≠ 5) : OutAt w' base o row b := by
  rcases o with _ | ⟨no, fi, K, m, I⟩
  · exact h
  · obtain ⟨sd, cap, e1, e2, e3⟩ := h
    exact ⟨sd, cap, e1, e2, e3.keptT hg hq h1 h2⟩
set_option maxRecDepth 100000 in
theorem GpOut.out {W W' : World} {o : Option (Nat × Nat × Nat × Nat × (Nat → Nat))} {e : Ending} (h : GpOut W o e W') : ∃ row b, e = .returned (.tuple #[.agg row, .bool b]) ∧ OutAt W' W.heap.size o row b := by
  rcases o with _ | ⟨no, fi, K, m, I⟩
  · exact ⟨_, _, h, rfl, rfl⟩
  · obtain ⟨sd, cap, h1, h2⟩ := h
    exact ⟨_, _, h1, sd, cap, rfl, rfl, h2⟩
set_option maxRecDepth 100000 in
theorem RbOut.out {W W' : World} {s' : GbS} {v' : Value} {o : Option (Nat × Nat × Nat × Nat × (Nat → Nat))} {e : Ending} (h : RbOut W s' v' o e W') : ∃ row b, e = .returned (.tuple #[.agg (rbA s' v'), .agg row, .bool b]) ∧ OutAt W' W.heap.size o row b := by
  rcases o with _ | ⟨no, fi, K, m, I⟩
  · exact ⟨_, _, h, rfl, rfl⟩
  · obtain ⟨sd, cap, h1, h2⟩ := h
    exact ⟨_, _, h1, sd, cap, rfl, rfl, h2⟩
set_option maxRecDepth 100000 in
theorem OutAt.bool {w w2 : World} {base b2 : Nat} {o : Option (Nat × Nat × Nat × Nat × (Nat → Nat))} {row row2 : Array Value} {b b' : Bool} (h : OutAt w base o row b) (k : OutAt w2 b2 o row2 b') : b = b' := by
  rcases o with _ | ⟨no, fi, K, m, I⟩
  · rw [h.2, k.2]
  · obtain ⟨_, _, _, h1, _⟩ := h
    obtain ⟨_, _, _, h2, _⟩ := k
    rw [h1, h2]
set_option maxRecDepth 100000 in
theorem out_ref {w : World} {base : Nat} {o : Option (Nat × Nat × Nat × Nat × (Nat → Nat))} {row : Array Value} {b : Bool} (h : OutAt w base o row b) (y : World) : Calls Try.prog 15 #[.agg row] y (Ret y (.agg row)) := by
  obtain ⟨n0, n1, n2, n3, s, L, c, rfl⟩ := h.form
  exact l_ref17 _ _ _ _ _ _ _ y
set_option maxRecDepth 100000 in
theorem out_same {w : World} {base b2 : Nat} {o : Option (Nat × Nat × Nat × Nat × (Nat → Nat))} {row row2 : Array Value} {b b' : Bool} (h : OutAt w base o row b) (k : OutAt w b2 o row2 b') (hKm : ∀ x, o = some x → x.2.2.1 + x.2.2.2.1 ≤ 1000000) : Calls Try.prog 14 #[.agg row, .agg row2] w (Ret w (.bool true)) := by
  rcases o with _ | ⟨no, fi, K, m, I⟩
  · obtain ⟨rfl, _⟩ := h
    obtain ⟨rfl, _⟩ := k
    exact r_same17 0 0 0 0 0 2 none none 0 0 (fun _ _ => 0) w (fun i hi => absurd hi (by omega)) (fun i hi => absurd hi (by omega)) (by decide) (by decide)
  · obtain ⟨sd, cap, rfl, _, h3⟩ := h
    obtain ⟨sd2, cap2, rfl, _, k3⟩ := k
    obtain ⟨_, _, e1, h4, _⟩ := h3.open
    obtain ⟨_, _, e2, k4, _⟩ := k3.open
    injection e1 with a1 a2 a3
    injection e2 with c1 c2 c3
    subst a1 c1
    exact r_same17 _ _ _ _ (K + m) 2 _ _ cap cap2 (grD K I) w h4 k4 (by decide) (hKm _ rfl)
set_option maxRecDepth 100000 in
/-- a contract that leaves the world as it was -/
theorem ret_eq {P : Program} {f : FuncId} {args : Array Value} {w : World} {v : Value} (h : Calls P f args w fun e w' => e = .returned v ∧ w = w') : Calls P f args w (Ret w v) := h.mono fun e w' ⟨h1, h2⟩ => ⟨h1, by subst h2; exact Below.refl _ _⟩
/-! ### the plain law -/
structure BInv (s : GbS) (f size age : Nat) : Prop where
  ok : GbOk s
  sz : s.size = size
  ag : s.age = age
  hn : s.n < size
  ho : s.old < age
  ff : s.fi + s.n = f
set_option maxRecDepth 100000 in
theorem BInv.start (size age : Nat) (most : Int) (s0 : 1 ≤ size) (s1 : size ≤ 16) (a0 : 1 ≤ age) (a1 : age ≤ 4096) (m0 : 0 ≤ most) (m1 : most ≤ 16) : BInv ⟨⟨0, most, 0⟩, size, age, 0, 0, 0, 0, fun _ => 0⟩ 0 size age :=
  ⟨⟨⟨by simp, by simp, m0, m1, by simp, by simp⟩, s0, s1, a0, a1, by simp, by simp, by simp, by simp, fun _ => by simp⟩, rfl, rfl, s0, a0, rfl⟩
set_option maxRecDepth 100000 in
theorem bclose {s : GbS} {f size age : Nat} (loss : Int) (ok : GbOk s) (hsz : s.size = size) (hag : s.age = age) (hff : s.fi + s.n = f) (hm : f ≤ 60) : BInv (gbClo s loss) f size age := by
  refine ⟨ok.clo loss, hsz, hag, ?_, ?_, ?_⟩
  · show 0 < size; have := ok.s0; omega
  · show 0 < age; have := ok.a0; omega
  · show (s.fi + s.n) % 4294967296 + 0 = f; omega
set_option maxRecDepth 100000 in
theorem BInv.tick {s : GbS} {f size age : Nat} (h : BInv s f size age) (loss : Int) (hm : f ≤ 60) : BInv (gbTick s loss).1 f size age := by
  unfold gbTick
  by_cases h0 : s.n = 0
  · rw [if_pos h0]; exact h
  · rw [if_neg h0]
    by_cases h1 : s.old + 1 < s.age
    · rw [if_pos h1]
      exact ⟨h.ok.oldS (by have := h.ag; have := h.ho; omega), h.sz, h.ag, h.hn, by show s.old + 1 < age; have := h.ag; omega, h.ff⟩
    · rw [if_neg h1]
      exact bclose loss (h.ok.oldS (by have := h.ag; have := h.ho; omega)) h.sz h.ag h.ff hm
set_option maxRecDepth 100000 in
theorem BInv.add {s : GbS} {f size age : Nat} (h : BInv s f size age) (x : Nat) (hx : x < 65536) (loss : Int) (hm : f < 60) : BInv (gbAdd s x loss).1 (f + 1) size age := by
  have ok2 := h.ok.addS hx (by rw [h.sz]; exact h.hn)
  have hf : (gbAddS s x).fi + (gbAddS s x).n = f + 1 := by have := h.ff; show s.fi + (s.n + 1) = f + 1; omega
  unfold gbAdd
  by_cases h1 : (gbAddS s x).n < s.size
  · rw [if_pos h1]
    exact ⟨ok2, h.sz, h.ag, by have := h.sz; show s.n + 1 < size; have : s.n + 1 < s.size := h1; omega, h.ho, hf⟩
  · rw [if_neg h1]
    exact bclose loss ok2 h.sz h.ag hf (by omega)
set_option maxRecDepth 100000 in
theorem clo_small {s : GbS} (ok : GbOk s) (loss : Int) : (gbGrp s loss).2.2.1 + (gbGrp s loss).2.2.2.1 ≤ 1000000 := by
  have h1 := (ok.clo loss).ct.n1
  have h2 := (ok.clo loss).ct.n0
  have h3 := ok.n
  show s.n + (gbClo s loss).ct.now.toNat ≤ 1000000
  omega
set_option maxRecDepth 100000 in
theorem BInv.tick_small {s : GbS} {f size age : Nat} (h : BInv s f size age) (loss : Int) : ∀ x, (gbTick s loss).2 = some x → x.2.2.1 + x.2.2.2.1 ≤ 1000000 := fun x hx => by
  unfold gbTick at hx
  by_cases h0 : s.n = 0
  · rw [if_pos h0] at hx; cases hx
  · rw [if_neg h0] at hx
    by_cases h1 : s.old + 1 < s.age
    · rw [if_pos h1] at hx; cases hx
    · rw [if_neg h1] at hx
      injection hx with hx
      rw [← hx]
      exact clo_small (h.ok.oldS (by have := h.ag; have := h.ho; omega)) loss
set_option maxRecDepth 100000 in
theorem BInv.add_small {s : GbS} {f size age : Nat} (h : BInv s f size age) (x : Nat) (hx : x < 65536) (loss : Int) : ∀ y, (gbAdd s x loss).2 = some y → y.2.2.1 + y.2.2.2.1 ≤ 1000000 := fun y hy => by
  have ok2 := h.ok.addS hx (by rw [h.sz]; exact h.hn)
  unfold gbAdd at hy
  by_cases h1 : (gbAddS s x).n < s.size
  · rw [if_pos h1] at hy; cases hy
  · rw [if_neg h1] at hy
    injection hy with hy
    rw [← hy]
    exact clo_small ok2 loss
/-! ### the world -/
structure BlAt (wr w : World) (bp tb cp q7 : Nat) (s : GbS) (v v2 : Value) : Prop where
  bat : BAt wr bp tb cp w.heap.size s v
  own : OwnZ wr w.heap.size 39 .u16 v2 s.n (fun j => (s.I j : Nat))
  d : dj v v2
  box : wr.heap[q7]? = some (.cells (rbA s v2) 37 (0, 0))
  lo : Below w.heap.size w wr
  hbp : w.heap.size ≤ bp
  hcp : w.heap.size ≤ cp
  hq : w.heap.size ≤ q7
set_option maxRecDepth 100000 in
theorem BlAt.below {wr w w2 : World} {bp tb cp q7 : Nat} {s : GbS} {v v2 : Value} (h : BlAt wr w bp tb cp q7 s v v2) (hb : Below wr.heap.size wr w2) : BlAt w2 w bp tb cp q7 s v v2 :=
  ⟨h.bat.below hb, h.own.below hb, h.d, (hb.block _ (Array.getElem?_eq_some_iff.1 h.box).1).trans h.box, h.lo.trans (hb.mono h.lo.size), h.hbp, h.hcp, h.hq⟩
/-- the document has answered: its builder's next state lies in a box of its own -/
structure NxAt (wr w : World) (bp tb cp q7 q11 q12 : Nat) (s s' : GbS) (v v2 v3 : Value) (o : Option (Nat × Nat × Nat × Nat × (Nat → Nat))) (row : Array Value) (b : Bool) : Prop where
  bl : BlAt wr w bp tb cp q7 s v v2
  own : OwnZ wr w.heap.size 39 .u16 v3 s'.n (fun j => (s'.I j : Nat))
  d : dj v v3
  b11 : wr.heap[q11]? = some (.cells (rbA s' v3) 37 (0, 0))
  b12 : wr.heap[q12]? = some (.cells row 44 (0, 0))
  out : OutAt wr w.heap.size o row b
  h11 : w.heap.size ≤ q11
  h12 : w.heap.size ≤ q12
set_option maxRecDepth 100000 in
theorem NxAt.below {wr w w2 : World} {bp tb cp q7 q11 q12 : Nat} {s s' : GbS} {v v2 v3 : Value} {o : Option (Nat × Nat × Nat × Nat × (Nat → Nat))} {row : Array Value} {b : Bool} (h : NxAt wr w bp tb cp q7 q11 q12 s s' v v2 v3 o row b) (hb : Below wr.heap.size wr w2) : NxAt w2 w bp tb cp q7 q11 q12 s s' v v2 v3 o row b :=
  ⟨h.bl.below hb, h.own.below hb, h.d, (hb.block _ (Array.getElem?_eq_some_iff.1 h.b11).1).trans h.b11, (hb.block _ (Array.getElem?_eq_some_iff.1 h.b12).1).trans h.b12, h.out.below hb, h.h11, h.h12⟩
/-- the program has answered, too -/
structure DnAt (wr w : World) (bp tb cp q7 q11 q12 q14 : Nat) (s' : GbS) (v v3 : Value) (o : Option (Nat × Nat × Nat × Nat × (Nat → Nat))) (row row2 : Array Value) (b : Bool) : Prop where
  bat : BAt wr bp tb cp w.heap.size s' v
  own : OwnZ wr w.heap.size 39 .u16 v3 s'.n (fun j => (s'.I j : Nat))
  d : dj v v3
  b7 : ∃ C, wr.heap[q7]? = some (.cells C 37 (0, 0)) ∧ C.size = 9
  b11 : wr.heap[q11]? = some (.cells (rbA s' v3) 37 (0, 0))
  b12 : wr.heap[q12]? = some (.cells row 44 (0, 0))
  b14 : wr.heap[q14]? = some (.cells row2 48 (0, 0))
  out : OutAt wr w.heap.size o row b
  out2 : OutAt wr w.heap.size o row2 b
  lo : Below w.heap.size w wr
  hbp : w.heap.size ≤ bp
  hcp : w.heap.size ≤ cp
  hq : w.heap.size ≤ q7
set_option maxRecDepth 100000 in
theorem rbA_def (s : GbS) (v : Value) : rbA s v = #[.int .i64 s.ct.now, .int .i64 s.ct.most, .int .i64 s.ct.calm, .int .i64 (s.size : Nat), .int .i64 (s.age : Nat), .int .i64 (s.old : Nat), .int .u32 (s.no : Nat), .int .u32 (s.fi : Nat), v] := rfl
set_option maxRecDepth 100000 in
theorem rbA_6 (s : GbS) (v : Value) : (rbA s v)[6]? = some (.int .u32 (s.no : Nat)) := rfl
set_option maxRecDepth 100000 in
theorem rbA_8 (s : GbS) (v : Value) : (rbA s v)[8]? = some v := rfl
set_option maxRecDepth 100000 in
theorem rbA_size (s : GbS) (v : Value) : (rbA s v).size = 9 := by unfold rbA; rfl
set_option maxRecDepth 100000 in
theorem rbA_plain (s : GbS) (sv : Option Addr) (n c : Nat) : Plain (rbA s (.slice sv n c)) := by unfold rbA; exact rb_plain _ _ _ _ _ _ _ _ _ _ _ _ _ _ _ _ _ _ _
set_option maxRecDepth 100000 in
theorem NxAt.make {wr w W2 : World} {bp tb cp q7 : Nat} {s s' : GbS} {v v2 : Value} {o : Option (Nat × Nat × Nat × Nat × (Nat → Nat))} {e : Ending} (h : BlAt wr w bp tb cp q7 s v v2) (hp : RbPost wr w.heap.size v2 s' o e W2) :
    ∃ v3 row b, e = .returned (.tuple #[.agg (rbA s' v3), .agg row, .bool b]) ∧ Below wr.heap.size wr W2 ∧ (∃ sv c, v3 = .slice sv s'.n c) ∧ row.size = 5 ∧ Plain row ∧
      ∀ V q11 q12, Below W2.heap.size W2 V → V.heap[q11]? = some (.cells (rbA s' v3) 37 (0, 0)) → V.heap[q12]? = some (.cells row 44 (0, 0)) → w.heap.size ≤ q11 → w.heap.size ≤ q12 → NxAt V w bp tb cp q7 q11 q12 s s' v v2 v3 o row b := by
  obtain ⟨v3, h1, h2, h3, h4⟩ := hp
  obtain ⟨row, b, rfl, ho⟩ := h4.out
  refine ⟨v3, row, b, rfl, h3, h1.form, ho.size.1, ho.size.2, fun V q11 q12 hV e11 e12 l11 l12 => ?_⟩
  exact ⟨(h.below h3).below hV, h1.below hV, (h.d.symm.left h2 (own_ltZ h.bat.own)).symm, e11, e12, (ho.below hV).base h.lo.size, l11, l12⟩
set_option maxRecDepth 100000 in
/-- the answer is put into the boxes of the one before -/
theorem NxAt.again {wr w W2 : World} {bp tb cp q7 q11 q12 : Nat} {s s' : GbS} {v v2 : Value} {o : Option (Nat × Nat × Nat × Nat × (Nat → Nat))} {e : Ending} {C D : Array Value} (h : BlAt wr w bp tb cp q7 s v v2) (hp : RbPost wr w.heap.size v2 s' o e W2)
    (h11 : wr.heap[q11]? = some (.cells C 37 (0, 0))) (h12 : wr.heap[q12]? = some (.cells D 44 (0, 0))) (l11 : w.heap.size ≤ q11) (l12 : w.heap.size ≤ q12) (hne : q7 ≠ q11) :
    ∃ v3 row b, e = .returned (.tuple #[.agg (rbA s' v3), .agg row, .bool b]) ∧ Below wr.heap.size wr W2 ∧ (∃ sv c, v3 = .slice sv s'.n c) ∧ row.size = 5 ∧ Plain row ∧ W2.heap[q11]? = some (.cells C 37 (0, 0)) ∧ W2.heap[q12]? = some (.cells D 44 (0, 0)) ∧
      NxAt ((W2.setRow q11 (rbA s' v3)).setRow q12 row) w bp tb cp q7 q11 q12 s s' v v2 v3 o row b := by
  obtain ⟨v3, h1, h2, h3, h4⟩ := hp
  obtain ⟨row, b, rfl, ho⟩ := h4.out
  have e11 := (h3.block _ (Array.getElem?_eq_some_iff.1 h11).1).trans h11
  have e12 := (h3.block _ (Array.getElem?_eq_some_iff.1 h12).1).trans h12
  have hn : q11 ≠ q12 := ty_ne e11 e12 (by decide)
  have hb := h.below h3
  have g1 : W2.grownBy (W2.setRow q11 (rbA s' v3)) (some q11) := only_setRow (only_refl W2 _) (.inl rfl) _
  have e12' : (W2.setRow q11 (rbA s' v3)).heap[q12]? = some (.cells D 44 (0, 0)) := (setRow_other _ _ _ _ hn.symm).trans e12
  have g2 : (W2.setRow q11 (rbA s' v3)).grownBy ((W2.setRow q11 (rbA s' v3)).setRow q12 row) (some q12) := only_setRow (only_refl _ _) (.inl rfl) _
  have kz : ∀ {n : Nat} {u : Value} {f : Nat → Int}, OwnZ W2 w.heap.size 39 .u16 u n f → OwnZ ((W2.setRow q11 (rbA s' v3)).setRow q12 row) w.heap.size 39 .u16 u n f := fun {n u f} hu => (hu.kept2 g1 (.inr (own_neZ hu e11 (by decide)))).kept2 g2 (.inr (own_neZ (hu.kept2 g1 (.inr (own_neZ hu e11 (by decide)))) e12' (by decide)))
  have hb1 := hb.bat.kept g1 (fun e => ty_ne e11 hb.bat.b (by decide) (by injection e)) (fun e => ty_ne e11 hb.bat.gf (by decide) (by injection e)) (fun e => ty_ne e11 hb.bat.ct (by decide) (by injection e)) (.inr (hb.bat.own_ne e11 (by decide)))
  have hb2 := hb1.kept g2 (fun e => ty_ne e12' hb1.b (by decide) (by injection e)) (fun e => ty_ne e12' hb1.gf (by decide) (by injection e)) (fun e => ty_ne e12' hb1.ct (by decide) (by injection e)) (.inr (hb1.own_ne e12' (by decide)))
  obtain ⟨t1, t2, _, _⟩ := two_set (A := rbA s' v3) (B := row) e11 e12 hn
  refine ⟨v3, row, b, rfl, h3, h1.form, ho.size.1, ho.size.2, e11, e12, ⟨hb2, kz hb.own, h.d, ?_, below_setRow (below_setRow hb.lo l11 _) l12 _, h.hbp, h.hcp, h.hq⟩, kz h1, (h.d.symm.left h2 (own_ltZ h.bat.own)).symm, t1, t2, ?_, l11, l12⟩
  · exact (g2.block q7 (Array.getElem?_eq_some_iff.1 ((g1.block q7 (Array.getElem?_eq_some_iff.1 hb.box).1 (fun e => hne (by injection e))).trans hb.box)).1 (fun e => ty_ne hb.box e12 (by decide) (by injection e))).trans ((g1.block q7 (Array.getElem?_eq_some_iff.1 hb.box).1 (fun e => hne (by injection e))).trans hb.box)
  · exact ((ho.base h.lo.size).keptT g1 e11 (by decide) (by decide)).keptT g2 e12' (by decide) (by decide)
set_option maxRecDepth 100000 in
theorem DnAt.make {P w P2 : World} {bp tb cp q7 q11 q12 q14 : Nat} {s s' : GbS} {v v2 v3 : Value} {o : Option (Nat × Nat × Nat × Nat × (Nat → Nat))} {row D0 : Array Value} {b : Bool} {e : Ending} (h : NxAt P w bp tb cp q7 q11 q12 s s' v v2 v3 o row b) (h14 : P.heap[q14]? = some (.cells D0 48 (0, 0))) (l14 : w.heap.size ≤ q14) (hp : GbPost P bp tb cp w.heap.size v s' o e P2) :
    ∃ v' row2, e = .returned (.tuple #[.agg row2, .bool b]) ∧ P2.heap[q14]? = some (.cells D0 48 (0, 0)) ∧ row2.size = 5 ∧ Plain row2 ∧ Below w.heap.size w P2 ∧ DnAt (P2.setRow q14 row2) w bp tb cp q7 q11 q12 q14 s' v' v3 o row row2 b := by
  obtain ⟨v', h1, h2, h3, h4⟩ := hp
  obtain ⟨row2, b', rfl, ho⟩ := h4.out
  have hbb := h.out.bool ho
  subst hbb
  have bl := h.bl
  have keep : ∀ {q : Nat} {c : Array Value} {T : TypeId} {f : Nat × Nat}, P.heap[q]? = some (.cells c T f) → T ≠ 81 → T ≠ 102 → T ≠ 39 → P2.heap[q]? = some (.cells c T f) := fun {q c T f} hq t1 t2 t3 => (h3.block q (Array.getElem?_eq_some_iff.1 hq).1 (ty_ne hq bl.bat.b t1) (ty_ne hq bl.bat.ct t2) (bl.bat.own_ne hq t3)).trans hq
  have e14 := keep h14 (by decide) (by decide) (by decide)
  have hlo : Below w.heap.size w P2 := h3.to_below bl.lo bl.lo.size bl.hbp bl.hcp (fun q hq => (bl.bat.own.lt q hq).1)
  have hw3 : OwnZ P2 w.heap.size 39 .u16 v3 s'.n (fun j => (s'.I j : Nat)) := by
    refine ⟨h.own.1, ?_⟩
    rcases h.own.2 with h5 | ⟨g, cap, cur, hv, hb, hg, hr⟩
    · exact .inl h5
    · have hob : v3.ownBlock = some g := by rw [hv]; rfl
      exact .inr ⟨g, cap, cur, hv, hb, (h3.block g (Array.getElem?_eq_some_iff.1 hg).1 (ty_ne hg bl.bat.b (by decide)) (ty_ne hg bl.bat.ct (by decide)) (fun e => h.d g e hob)).trans hg, hr⟩
  have hout : OutAt P2 w.heap.size o row b := by
    rcases o with _ | ⟨no, fi, K, m, I⟩
    · exact h.out
    · obtain ⟨sd, cap, r1, r2, A, r3, r4⟩ := h.out
      refine ⟨sd, cap, r1, r2, A, ⟨r3.1, ?_⟩, fun i hi => ?_⟩
      · rcases r3.2 with h5 | ⟨g, cap', cur, hv, hb, hg, hr⟩
        · exact .inl h5
        · exact .inr ⟨g, cap', cur, hv, hb, keep hg (by decide) (by decide) (by decide), hr⟩
      · obtain ⟨g, k, q1, q2, ⟨D, q3, q4⟩, q5⟩ := r4 i hi
        exact ⟨g, k, q1, q2, ⟨D, keep q3 (by decide) (by decide) (by decide), q4⟩, q5⟩
  have hg : P2.grownBy (P2.setRow q14 row2) (some q14) := only_setRow (only_refl P2 _) (.inl rfl) _
  have k2 : ∀ {q : Nat} {c : Array Value} {T : TypeId} {f : Nat × Nat}, P2.heap[q]? = some (.cells c T f) → T ≠ 48 → (P2.setRow q14 row2).heap[q]? = some (.cells c T f) := fun {q c T f} hq t1 => (setRow_other _ _ _ _ (ty_ne hq e14 t1)).trans hq
  refine ⟨v', row2, rfl, e14, ho.size.1, ho.size.2, hlo, ?_, hw3.kept2 hg (.inr (own_neZ hw3 e14 (by decide))), h.d.left h2 (own_ltZ h.own), ⟨_, k2 (keep bl.box (by decide) (by decide) (by decide)) (by decide), rbA_size _ _⟩, k2 (keep h.b11 (by decide) (by decide) (by decide)) (by decide), k2 (keep h.b12 (by decide) (by decide) (by decide)) (by decide), setRow_heap _ _ _ _ _ _ e14, hout.keptT hg e14 (by decide) (by decide), (ho.base bl.lo.size).keptT hg e14 (by decide) (by decide), below_setRow hlo l14 _, bl.hbp, bl.hcp, bl.hq⟩
  exact h1.kept hg (fun e => ty_ne e14 h1.b (by decide) (by injection e)) (fun e => ty_ne e14 h1.gf (by decide) (by injection e)) (fun e => ty_ne e14 h1.ct (by decide) (by injection e)) (.inr (h1.own_ne e14 (by decide)))
set_option maxRecDepth 100000 in
/-- the next state becomes the state -/
theorem DnAt.fin {wr w : World} {bp tb cp q7 q11 q12 q14 : Nat} {s' : GbS} {v v3 : Value} {o : Option (Nat × Nat × Nat × Nat × (Nat → Nat))} {row row2 : Array Value} {b : Bool} (h : DnAt wr w bp tb cp q7 q11 q12 q14 s' v v3 o row row2 b) :
    BlAt (wr.setRow q7 (rbA s' v3)) w bp tb cp q7 s' v v3 ∧ OutAt (wr.setRow q7 (rbA s' v3)) w.heap.size o row b ∧ OutAt (wr.setRow q7 (rbA s' v3)) w.heap.size o row2 b ∧ (wr.setRow q7 (rbA s' v3)).heap[q12]? = some (.cells row 44 (0, 0)) ∧ (wr.setRow q7 (rbA s' v3)).heap[q14]? = some (.cells row2 48 (0, 0)) := by
  obtain ⟨C, h7, _⟩ := h.b7
  have hg : wr.grownBy (wr.setRow q7 (rbA s' v3)) (some q7) := only_setRow (only_refl wr _) (.inl rfl) _
  have hb := h.bat
  exact ⟨⟨hb.kept hg (fun e => ty_ne h7 hb.b (by decide) (by injection e)) (fun e => ty_ne h7 hb.gf (by decide) (by injection e)) (fun e => ty_ne h7 hb.ct (by decide) (by injection e)) (.inr (hb.own_ne h7 (by decide))), h.own.kept2 hg (.inr (own_neZ h.own h7 (by decide))), h.d, setRow_heap _ _ _ _ _ _ h7, below_setRow h.lo h.hq _, h.hbp, h.hcp, h.hq⟩,
    h.out.keptT hg h7 (by decide) (by decide), h.out2.keptT hg h7 (by decide) (by decide), (setRow_other _ _ _ _ (ty_ne h.b12 h7 (by decide))).trans h.b12, (setRow_other _ _ _ _ (ty_ne h.b14 h7 (by decide))).trans h.b14⟩
end Go.Proofs.Ytipfoclmdbbjiaa

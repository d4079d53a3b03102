import Derived.Test.YtmfagdbocidfjaaU16
import Derived.Test.YtmfagdbocidfjaaU21
/- The parts of an engine, told by what they hold: a player's inputs (all that came, all that were used), the saved states. Lemmas alone. -/
namespace Go.Proofs.Ytmfagdbocidfjaa
open Go.RowKit
/-- the input of a frame, as it is known or thought -/
def inAt (I : List Int) (f : Nat) : Int := I.getD f (I.getLastD 0)
/-- what was used, behind one more use -/
def useL (A : List Int) (f : Nat) (v : Int) : List Int := if f = A.length then A ++ [v] else A.set f v
/-- the first frame thought wrong, behind an input more -/
def addW (wr : Int) (A : List Int) (n : Nat) (x : Int) : Int := if n < A.length then wrongF wr n (A.getD n 0) x else wr
structure QuR (s : QuS) (I A : List Int) : Prop where
  ks : s.ks = I.drop s.kf
  kf : s.kf ≤ I.length
  last : s.last = I.getLastD 0
  us : s.us = A.drop s.uf
  uf : s.uf ≤ A.length
/-- a queue, by what it holds -/
def QuIs (W : World) (lo p : Nat) (F : Nat → Prop) (I A : List Int) (kf uf : Nat) (wr : Int) : Prop :=
  ∃ kr ur kv uv s, QuAt W lo p kr ur kv uv s ∧ QuR s I A ∧ s.kf = kf ∧ s.uf = uf ∧ s.wrong = wr ∧ ∀ b, F b ↔ quFoot p kr ur kv uv b
/-- what a call leaves -/
def QuTo (W : World) (lo p : Nat) (F : Nat → Prop) (I A : List Int) (kf uf : Nat) (wr : Int) (W' : World) : Prop :=
  ∃ F', QuIs W' lo p F' I A kf uf wr ∧ Touch W W' F ∧ ∀ b, F' b → F b ∨ W.heap.size ≤ b
section
variable {W W' : World} {lo p kf uf : Nat} {F G : Nat → Prop} {I A : List Int} {wr : Int}
set_option maxRecDepth 100000 in
theorem QuIs.lt (h : QuIs W lo p F I A kf uf wr) : ∀ b, F b → b < W.heap.size := by
  obtain ⟨kr, ur, kv, uv, s, h1, _, _, _, _, h2⟩ := h
  exact fun b hb => h1.lt b ((h2 b).1 hb)
set_option maxRecDepth 100000 in
theorem QuIs.ge (h : QuIs W lo p F I A kf uf wr) : ∀ b, F b → lo ≤ b := by
  obtain ⟨kr, ur, kv, uv, s, h1, _, _, _, _, h2⟩ := h
  exact fun b hb => h1.ge b ((h2 b).1 hb)
set_option maxRecDepth 100000 in
theorem QuIs.keep (h : QuIs W lo p F I A kf uf wr) (e : ∀ b, F b → W'.heap[b]? = W.heap[b]?) : QuIs W' lo p F I A kf uf wr := by
  obtain ⟨kr, ur, kv, uv, s, h1, h3, h4, h5, h6, h2⟩ := h
  exact ⟨kr, ur, kv, uv, s, h1.keep (fun b hb => e b ((h2 b).2 hb)), h3, h4, h5, h6, h2⟩
set_option maxRecDepth 100000 in
theorem QuIs.touch (h : QuIs W lo p F I A kf uf wr) (hT : Touch W W' G) (e : ∀ b, F b → ¬ G b) : QuIs W' lo p F I A kf uf wr := h.keep fun b hb => hT.block b (h.lt b hb) (e b hb)
set_option maxRecDepth 100000 in
theorem QuIs.drewN (h : QuIs W lo p F I A kf uf wr) (q : Nat) : QuIs (W.drewN q) lo p F I A kf uf wr := h.keep fun _ _ => rfl
set_option maxRecDepth 100000 in
theorem QuIs.self (h : QuIs W lo p F I A kf uf wr) : F p := by
  obtain ⟨kr, ur, kv, uv, s, h1, _, _, _, _, h2⟩ := h
  exact (h2 p).2 (.inl rfl)
set_option maxRecDepth 100000 in
/-- blocks of other types are no part of it -/
theorem QuIs.not (h : QuIs W lo p F I A kf uf wr) {b : Nat} {C : Array Value} {T : TypeId} (hb : W.heap[b]? = some (.cells C T (0, 0))) (h1 : T ≠ 145) (h2 : T ≠ 177) (h3 : T ≠ 34) : ¬ F b := by
  obtain ⟨kr, ur, kv, uv, s, g1, _, _, _, _, g2⟩ := h
  intro hF
  rcases (g2 b).1 hF with e | e | e | e | e
  · subst e; exact bty_ne hb g1.blk h1 rfl
  · subst e; exact bty_ne hb g1.known.blk h2 rfl
  · subst e; exact bty_ne hb g1.used.blk h2 rfl
  · exact g1.known.row.ne hb h3.symm b e rfl
  · exact g1.used.row.ne hb h3.symm b e rfl
set_option maxRecDepth 100000 in
theorem QuTo.of {kr ur : Nat} {kv uv : Value} {s : QuS} {u : Value} {e : Ending} (hF : ∀ b, F b ↔ quFoot p kr ur kv uv b) (h : QuPost W lo p kr ur kv uv s u e W') (hr : QuR s I A) (h1 : s.kf = kf) (h2 : s.uf = uf) (h3 : s.wrong = wr) : e = .returned u ∧ QuTo W lo p F I A kf uf wr W' := by
  obtain ⟨he, kv', uv', g1, g2, g3, g4⟩ := h
  refine ⟨he, quFoot p kr ur kv' uv', ⟨kr, ur, kv', uv', s, g1, hr, h1, h2, h3, fun _ => Iff.rfl⟩, g2.mono (fun b _ hb => (hF b).2 hb), fun b hb => ?_⟩
  rcases hb with e | e | e | e | e
  · exact .inl ((hF b).2 (.inl e))
  · exact .inl ((hF b).2 (.inr (.inl e)))
  · exact .inl ((hF b).2 (.inr (.inr (.inl e))))
  · exact (g3 b e).imp (fun e => (hF b).2 (.inr (.inr (.inr (.inl e))))) id
  · exact (g4 b e).imp (fun e => (hF b).2 (.inr (.inr (.inr (.inr e))))) id
end
set_option maxRecDepth 100000 in
theorem getLastD_app (I : List Int) (x : Int) : (I ++ [x]).getLastD 0 = x := by simp
set_option maxRecDepth 100000 in
theorem getD_some (I : List Int) (f : Nat) (d : Int) (h : f < I.length) : I[f]? = some (I.getD f d) := by rw [List.getD_eq_getElem?_getD, List.getElem?_eq_getElem h]; rfl
set_option maxRecDepth 100000 in
theorem getD_none (I : List Int) (f : Nat) (d : Int) (h : I.length ≤ f) : I.getD f d = d := by rw [List.getD_eq_getElem?_getD, List.getElem?_eq_none h]; rfl
section
variable {w : World} {lo p kf uf : Nat} {F : Nat → Prop} {I A : List Int} {wr : Int}
set_option maxRecDepth 100000 in
theorem q_next (h : QuIs w lo p F I A kf uf wr) (hI : I.length ≤ 10000) : Calls Try.prog 32 #[.pointer (some ⟨p, 0, none⟩)] w (DrawPost w (.int .i64 (I.length : Nat))) := by
  obtain ⟨kr, ur, kv, uv, s, h1, hr, h4, h5, h6, h2⟩ := h
  have hl : s.kf + s.ks.length = I.length := by rw [hr.ks, List.length_drop]; have := hr.kf; omega
  have := qu_next lo p kr ur kv uv s w h1 (by omega)
  rw [hl] at this
  exact this
set_option maxRecDepth 100000 in
theorem q_wrong (h : QuIs w lo p F I A kf uf wr) : Calls Try.prog 38 #[.pointer (some ⟨p, 0, none⟩)] w (fun e w' => e = .returned (.int .i64 wr) ∧ w = w') := by
  obtain ⟨kr, ur, kv, uv, s, h1, hr, h4, h5, rfl, h2⟩ := h
  exact qu_wrong lo p kr ur kv uv s w h1
set_option maxRecDepth 100000 in
theorem q_right (h : QuIs w lo p F I A kf uf wr) : Calls Try.prog 39 #[.pointer (some ⟨p, 0, none⟩)] w (fun e w' => e = .returned (.tuple #[]) ∧ QuTo w lo p F I A kf uf (-1) w') := by
  obtain ⟨kr, ur, kv, uv, s, h1, hr, h4, h5, h6, h2⟩ := h
  refine (qu_right lo p kr ur kv uv s w h1).mono ?_
  rintro e w' ⟨rfl, rfl⟩
  exact ⟨rfl, F, ⟨kr, ur, kv, uv, _, h1.setWrong (-1), ⟨hr.ks, hr.kf, hr.last, hr.us, hr.uf⟩, h4, h5, rfl, h2⟩, (touch_set w p 4 _).mono (fun b _ hb => (h2 b).2 (.inl hb)), fun b hb => .inl hb⟩
set_option maxRecDepth 100000 in
theorem q_add (h : QuIs w lo p F I A kf uf wr) (x : Int) (hlo : lo ≤ w.heap.size) (hI : I.length < 256) (hA : A.length ≤ 10000) (hu : uf ≤ I.length) : Calls Try.prog 33 #[.pointer (some ⟨p, 0, none⟩), .int .u16 x] w (fun e w' => e = .returned (.int .i64 (I.length : Nat)) ∧ QuTo w lo p F (I ++ [x]) A kf uf (addW wr A I.length x) w') := by
  obtain ⟨kr, ur, kv, uv, s, h1, hr, rfl, rfl, rfl, h2⟩ := h
  have hl : s.kf + s.ks.length = I.length := by rw [hr.ks, List.length_drop]; have := hr.kf; omega
  have hl2 : s.uf + s.us.length = A.length := by rw [hr.us, List.length_drop]; have := hr.uf; omega
  have hks : (s.ks ++ [x]) = (I ++ [x]).drop s.kf := by rw [List.drop_append_of_le_length hr.kf, ← hr.ks]
  have hR : ∀ z, QuR { addF s x with wrong := z } (I ++ [x]) A := fun z => ⟨hks, by show s.kf ≤ _; rw [List.length_append]; have := hr.kf; omega, (getLastD_app I x).symm, hr.us, hr.uf⟩
  by_cases hn : I.length < A.length
  · have hj : s.us[I.length - s.uf]? = some (A.getD I.length 0) := by
      rw [hr.us, List.getElem?_drop, show s.uf + (I.length - s.uf) = I.length by omega]
      exact getD_some _ _ _ hn
    have := qu_add_used lo p kr ur kv uv s x _ _ w h1 hlo (by omega) (by omega) (by omega) hj (by omega)
    rw [hl] at this
    refine this.mono ?_
    intro e w' hP
    exact QuTo.of h2 hP (hR _) rfl rfl (by unfold addW; rw [if_pos hn])
  · have := qu_add_new lo p kr ur kv uv s x w h1 hlo (by omega) (by omega) (by omega)
    rw [hl] at this
    refine this.mono ?_
    intro e w' hP
    exact QuTo.of h2 hP (hR s.wrong) rfl rfl (by unfold addW; rw [if_neg hn]; rfl)
set_option maxRecDepth 100000 in
theorem q_use (h : QuIs w lo p F I A kf uf wr) (f : Nat) (hlo : lo ≤ w.heap.size) (hI : I.length ≤ 10000) (hA : A.length < 256) (hk : kf ≤ f) (hu : uf ≤ f) (hf : f ≤ A.length) : Calls Try.prog 73 #[.pointer (some ⟨p, 0, none⟩), .int .i64 (f : Nat)] w (fun e w' => ∃ k : Bool, e = .returned (.tuple #[.int .u16 (inAt I f), .bool k, .int .i64 0]) ∧ QuTo w lo p F I (useL A f (inAt I f)) kf uf wr w') := by
  obtain ⟨kr, ur, kv, uv, s, h1, hr, rfl, rfl, rfl, h2⟩ := h
  have hl : s.kf + s.ks.length = I.length := by rw [hr.ks, List.length_drop]; have := hr.kf; omega
  have hl2 : s.uf + s.us.length = A.length := by rw [hr.us, List.length_drop]; have := hr.uf; omega
  obtain ⟨k, hk⟩ : ∃ k, ThinkIs s ((f : Nat) : Int) (inAt I f) k := by
    by_cases hn : f < I.length
    · refine ⟨true, .inl ⟨f - s.kf, ?_, by omega, rfl⟩⟩
      rw [hr.ks, List.getElem?_drop, show s.kf + (f - s.kf) = f by omega]
      exact getD_some _ _ _ hn
    · refine ⟨false, .inr ⟨by omega, ?_, rfl⟩⟩
      unfold inAt
      rw [getD_none _ _ _ (by omega), hr.last]
  by_cases hn : f = A.length
  · have hR : QuR { s with us := s.us ++ [inAt I f] } I (useL A f (inAt I f)) := by
      refine ⟨hr.ks, hr.kf, hr.last, ?_, ?_⟩
      · show s.us ++ [inAt I f] = _
        unfold useL; rw [if_pos hn, List.drop_append_of_le_length hr.uf, ← hr.us]
      · show s.uf ≤ _
        unfold useL; rw [if_pos hn, List.length_append]; have := hr.uf; omega
    rw [show f = s.uf + s.us.length by omega] at hk
    have := qu_use_new lo p kr ur kv uv s _ k (by omega) w h1 hlo (by omega) (by omega) hk
    rw [show s.uf + s.us.length = f by omega] at this
    refine this.mono ?_
    intro e w' hP
    obtain ⟨g1, g2⟩ := QuTo.of h2 hP hR rfl rfl rfl
    exact ⟨k, g1, g2⟩
  · have hR : QuR { s with us := s.us.set (f - s.uf) (inAt I f) } I (useL A f (inAt I f)) := by
      refine ⟨hr.ks, hr.kf, hr.last, ?_, ?_⟩
      · show s.us.set (f - s.uf) (inAt I f) = (useL A f (inAt I f)).drop s.uf
        unfold useL; rw [if_neg hn, hr.us, List.drop_set, if_neg (by omega)]
      · show s.uf ≤ _
        unfold useL; rw [if_neg hn, List.length_set]; exact hr.uf
    have hy : s.us[f - s.uf]? = some (A.getD f 0) := by
      rw [hr.us, List.getElem?_drop, show s.uf + (f - s.uf) = f by omega]
      exact getD_some _ _ _ (by omega)
    have := qu_use_set lo p kr ur kv uv s _ k (f - s.uf) _ hy w h1 hlo (by omega) (by omega) (by rw [show s.uf + (f - s.uf) = f by omega]; exact hk)
    rw [show s.uf + (f - s.uf) = f by omega] at this
    refine this.mono ?_
    intro e w' hP
    obtain ⟨g1, g2⟩ := QuTo.of h2 hP hR rfl rfl rfl
    exact ⟨k, g1, g2⟩
set_option maxRecDepth 100000 in
theorem q_drop (h : QuIs w lo p F I A kf uf wr) (below : Int) (hlo : lo ≤ w.heap.size) (hI : I.length ≤ 10000) (hA : A.length ≤ 10000) (hb : below ≤ 10000) (hkI : below ≤ (kf : Int) ∨ kf < I.length) (huA : below ≤ (uf : Int) ∨ uf < A.length) :
    Calls Try.prog 37 #[.pointer (some ⟨p, 0, none⟩), .int .i64 below] w (fun e w' => e = .returned (.tuple #[]) ∧ QuTo w lo p F I A (kf + dropK kf (I.length - kf) (min below (A.length : Nat))) (uf + dropK uf (A.length - uf) below) wr w') := by
  obtain ⟨kr, ur, kv, uv, s, h1, hr, rfl, rfl, rfl, h2⟩ := h
  have hl : s.ks.length = I.length - s.kf := by rw [hr.ks, List.length_drop]
  have hl2 : s.us.length = A.length - s.uf := by rw [hr.us, List.length_drop]
  have hkf := hr.kf
  have huf := hr.uf
  have hsum : s.uf + s.us.length = A.length := by omega
  refine (qu_drop lo p kr ur kv uv s below w h1 hlo (by omega) (by omega) hb (by omega) (by omega)).mono ?_
  intro e w' hP
  have k1 : ∀ f n b, dropK f n b ≤ n := fun f n b => by unfold dropK; split <;> omega
  refine QuTo.of h2 hP ⟨?_, ?_, hr.last, ?_, ?_⟩ ?_ ?_ rfl
  · show s.ks.drop _ = I.drop (s.kf + _)
    rw [hr.ks, List.drop_drop]
  · show s.kf + dropK _ _ _ ≤ _
    have := k1 s.kf s.ks.length (min below ((s.uf + s.us.length : Nat) : Int)); omega
  · show s.us.drop _ = A.drop (s.uf + _)
    rw [hr.us, List.drop_drop]
  · show s.uf + dropK _ _ _ ≤ _
    have := k1 s.uf s.us.length below; omega
  · show s.kf + dropK s.kf s.ks.length (min below ((s.uf + s.us.length : Nat) : Int)) = _
    rw [hl, hsum]
  · show s.uf + dropK s.uf s.us.length below = _
    rw [hl2]
end
/-- the saved states, by what they hold -/
def SvIs (W : World) (lo p : Nat) (F : Nat → Prop) (first : Nat) (L : List ((Nat → Int) × Int)) : Prop := ∃ r v, SvAt W lo p r first v L ∧ ∀ b, F b ↔ svFoot p r v b
def SvTo (W : World) (lo p : Nat) (F : Nat → Prop) (first : Nat) (L : List ((Nat → Int) × Int)) (W' : World) : Prop :=
  ∃ F', SvIs W' lo p F' first L ∧ Touch W W' F ∧ ∀ b, F' b → F b ∨ W.heap.size ≤ b
section
variable {W W' : World} {lo p first : Nat} {F G : Nat → Prop} {L : List ((Nat → Int) × Int)}
set_option maxRecDepth 100000 in
theorem SvIs.lt (h : SvIs W lo p F first L) : ∀ b, F b → b < W.heap.size := by obtain ⟨r, v, h1, h2⟩ := h; exact fun b hb => h1.lt b ((h2 b).1 hb)
set_option maxRecDepth 100000 in
theorem SvIs.ge (h : SvIs W lo p F first L) : ∀ b, F b → lo ≤ b := by obtain ⟨r, v, h1, h2⟩ := h; exact fun b hb => h1.ge b ((h2 b).1 hb)
set_option maxRecDepth 100000 in
theorem SvIs.keep (h : SvIs W lo p F first L) (e : ∀ b, F b → W'.heap[b]? = W.heap[b]?) : SvIs W' lo p F first L := by
  obtain ⟨r, v, h1, h2⟩ := h
  exact ⟨r, v, h1.keep (fun b hb => e b ((h2 b).2 hb)), h2⟩
set_option maxRecDepth 100000 in
theorem SvIs.touch (h : SvIs W lo p F first L) (hT : Touch W W' G) (e : ∀ b, F b → ¬ G b) : SvIs W' lo p F first L := h.keep fun b hb => hT.block b (h.lt b hb) (e b hb)
set_option maxRecDepth 100000 in
theorem SvIs.drewN (h : SvIs W lo p F first L) (q : Nat) : SvIs (W.drewN q) lo p F first L := h.keep fun _ _ => rfl
set_option maxRecDepth 100000 in
theorem SvIs.not (h : SvIs W lo p F first L) {b : Nat} {C : Array Value} {T : TypeId} (hb : W.heap[b]? = some (.cells C T (0, 0))) (h1 : T ≠ 152) (h2 : T ≠ 180) (h3 : T ≠ 150) : ¬ F b := by
  obtain ⟨r, v, g1, g2⟩ := h
  intro hF
  rcases (g2 b).1 hF with e | e | e
  · subst e; exact bty_ne hb g1.blk h1 rfl
  · subst e; exact bty_ne hb g1.ring.blk h2 rfl
  · exact g1.ring.row.ne hb h3.symm b e rfl
set_option maxRecDepth 100000 in
theorem SvTo.of {r : Nat} {v : Value} (hF : ∀ b, F b ↔ svFoot p r v b) (h : SvPost W lo p r v first L W') : SvTo W lo p F first L W' := by
  obtain ⟨v', h1, h2, h3⟩ := h
  refine ⟨svFoot p r v', ⟨r, v', h1, fun _ => Iff.rfl⟩, h2.mono (fun b _ hb => (hF b).2 hb), fun b hb => ?_⟩
  rcases hb with e | e | e
  · exact .inl ((hF b).2 (.inl e))
  · exact .inl ((hF b).2 (.inr (.inl e)))
  · exact (h3 b e).imp (fun e => (hF b).2 (.inr (.inr e))) id
/-- a state is saved: the saved ones then -/
def saveF (first : Nat) (L : List ((Nat → Int) × Int)) (S : Nat → Int) (hh : Int) (f : Nat) : Nat × List ((Nat → Int) × Int) := putF first (L.take (f - first)) (S, hh)
set_option maxRecDepth 100000 in
theorem s_save (h : SvIs W lo p F first L) (S : Nat → Int) (f : Nat) (hlo : lo ≤ W.heap.size) (hS : S 0 = (f : Nat)) (hf1 : first ≤ f) (hf2 : f ≤ first + L.length) (hn : L.length ≤ 64) (hn1 : 1 ≤ L.length) (hb : first + L.length ≤ 10000) :
    Calls Try.prog 30 #[.pointer (some ⟨p, 0, none⟩), .agg (stA S)] W (fun e W' => e = .returned (.int .i64 0) ∧ ∃ hh, SvTo W lo p F (saveF first L S hh f).1 (saveF first L S hh f).2 W') := by
  obtain ⟨r, v, h1, h2⟩ := h
  refine (sv_save lo p r first v L S f W h1 hlo hS hf1 hf2 hn hn1 hb).mono ?_
  rintro e W' ⟨he, hh, hP⟩
  exact ⟨he, hh, SvTo.of h2 hP⟩
set_option maxRecDepth 100000 in
theorem s_save0 (h : SvIs W lo p F 0 []) (S : Nat → Int) (hlo : lo ≤ W.heap.size) (hS : S 0 = 0) :
    Calls Try.prog 30 #[.pointer (some ⟨p, 0, none⟩), .agg (stA S)] W (fun e W' => e = .returned (.int .i64 0) ∧ ∃ hh, SvTo W lo p F 0 [(S, hh)] W') := by
  obtain ⟨r, v, h1, h2⟩ := h
  refine (sv_save0 lo p r v S W h1 hlo hS).mono ?_
  rintro e W' ⟨he, hh, hP⟩
  exact ⟨he, hh, SvTo.of h2 hP⟩
set_option maxRecDepth 100000 in
theorem s_at (h : SvIs W lo p F first L) (j : Nat) (S : Nat → Int) (hh : Int) (hb : first + L.length ≤ 10000) (hL : L[j]? = some (S, hh)) :
    Calls Try.prog 40 #[.pointer (some ⟨p, 0, none⟩), .int .i64 ((first + j : Nat) : Int)] W (SvAtPost W S) := by
  obtain ⟨r, v, h1, h2⟩ := h
  exact sv_at lo p r first j v L S hh W h1 hb hL
end
end Go.Proofs.Ytmfagdbocidfjaa

/- An engine as it lies in memory; what is read of it. Conditions: what its block holds. -/
namespace Go.Proofs.Ytmfagdbocidfjaa
open Go.RowKit
structure EnC where
  seed : Int
  loc : Nat
  del : Nat
  ah : Nat
  x : Nat
  p0 : Nat
  p1 : Nat
  ps : Nat
/-- a player: all inputs that came, all that were used, from where they are kept, the first one thought wrong -/
structure PlS where
  I : List Int
  A : List Int
  kf : Nat
  uf : Nat
  wr : Int
def enA (c : EnC) (S : Nat → Int) (r1 r2 wo : Int) : Array Value :=
  #[.int .u32 c.seed, .int .i64 (c.loc : Nat), .int .i64 (c.del : Nat), .int .i64 (c.ah : Nat), .pointer (some ⟨c.p0, 0, none⟩), .pointer (some ⟨c.p1, 0, none⟩), .pointer (some ⟨c.ps, 0, none⟩)] ++ stA S ++ #[.int .i64 r1, .int .i64 r2, .int .i64 wo]
set_option maxRecDepth 100000 in
theorem enA_size (c : EnC) (S : Nat → Int) (r1 r2 wo : Int) : (enA c S r1 r2 wo).size = 76 := by unfold enA; rw [Array.size_append, Array.size_append, stA_size]; rfl
set_option maxRecDepth 100000 in
theorem enA_lo (c : EnC) (S : Nat → Int) (r1 r2 wo : Int) {i : Nat} (h : i < 7) : (enA c S r1 r2 wo)[i]? = #[.int .u32 c.seed, .int .i64 (c.loc : Nat), .int .i64 (c.del : Nat), .int .i64 (c.ah : Nat), .pointer (some ⟨c.p0, 0, none⟩), .pointer (some ⟨c.p1, 0, none⟩), .pointer (some ⟨c.ps, 0, none⟩)][i]? := by
  unfold enA
  rw [Array.getElem?_append_left (by rw [Array.size_append, stA_size]; show i < 7 + 66; omega), Array.getElem?_append_left (by show i < 7; omega)]
set_option maxRecDepth 100000 in
theorem enA_st (c : EnC) (S : Nat → Int) (r1 r2 wo : Int) {o : Nat} (h : o < 66) : (enA c S r1 r2 wo)[7 + o]? = some (cvS o (S o)) := by
  unfold enA
  rw [Array.getElem?_append_left (by rw [Array.size_append, stA_size]; show 7 + o < 7 + 66; omega), Array.getElem?_append_right (by show 7 ≤ 7 + o; omega)]
  show (stA S)[7 + o - 7]? = _
  rw [Nat.add_sub_cancel_left, stA_get S h]
set_option maxRecDepth 100000 in
theorem enA_hi (c : EnC) (S : Nat → Int) (r1 r2 wo : Int) {i : Nat} : (enA c S r1 r2 wo)[73 + i]? = #[.int .i64 r1, .int .i64 r2, .int .i64 wo][i]? := by
  unfold enA
  rw [Array.getElem?_append_right (by rw [Array.size_append, stA_size]; show 7 + 66 ≤ 73 + i; omega)]
  rw [Array.size_append, stA_size]
  show _[73 + i - 73]? = _
  rw [Nat.add_sub_cancel_left]
/-- the engine's block -/
def EnB (W : World) (c : EnC) (S : Nat → Int) (wo : Int) : Prop := ∃ r1 r2, W.heap[c.x]? = some (.cells (enA c S r1 r2 wo) 86 (0, 0))
section
variable {W W' : World} {c : EnC} {S : Nat → Int} {wo : Int}
set_option maxRecDepth 100000 in
theorem EnB.keep (h : EnB W c S wo) (e : W'.heap[c.x]? = W.heap[c.x]?) : EnB W' c S wo := by obtain ⟨r1, r2, h⟩ := h; exact ⟨r1, r2, e.trans h⟩
set_option maxRecDepth 100000 in
theorem EnB.drewN (h : EnB W c S wo) (q : Nat) : EnB (W.drewN q) c S wo := h.keep rfl
set_option maxRecDepth 100000 in
theorem EnB.lt (h : EnB W c S wo) : c.x < W.heap.size := by obtain ⟨r1, r2, h⟩ := h; exact (Array.getElem?_eq_some_iff.1 h).1
set_option maxRecDepth 100000 in
theorem EnB.loc (h : EnB W c S wo) : W.cell? ⟨c.x, 1, none⟩ = some (.int .i64 (c.loc : Nat)) := by obtain ⟨r1, r2, h⟩ := h; exact (cell_of_block h).trans ((enA_lo c S r1 r2 wo (by omega)).trans rfl)
set_option maxRecDepth 100000 in
theorem EnB.ah (h : EnB W c S wo) : W.cell? ⟨c.x, 3, none⟩ = some (.int .i64 (c.ah : Nat)) := by obtain ⟨r1, r2, h⟩ := h; exact (cell_of_block h).trans ((enA_lo c S r1 r2 wo (by omega)).trans rfl)
set_option maxRecDepth 100000 in
theorem EnB.p0 (h : EnB W c S wo) : W.cell? ⟨c.x, 4, none⟩ = some (.pointer (some ⟨c.p0, 0, none⟩)) := by obtain ⟨r1, r2, h⟩ := h; exact (cell_of_block h).trans ((enA_lo c S r1 r2 wo (by omega)).trans rfl)
set_option maxRecDepth 100000 in
theorem EnB.p1 (h : EnB W c S wo) : W.cell? ⟨c.x, 5, none⟩ = some (.pointer (some ⟨c.p1, 0, none⟩)) := by obtain ⟨r1, r2, h⟩ := h; exact (cell_of_block h).trans ((enA_lo c S r1 r2 wo (by omega)).trans rfl)
set_option maxRecDepth 100000 in
theorem EnB.ps (h : EnB W c S wo) : W.cell? ⟨c.x, 6, none⟩ = some (.pointer (some ⟨c.ps, 0, none⟩)) := by obtain ⟨r1, r2, h⟩ := h; exact (cell_of_block h).trans ((enA_lo c S r1 r2 wo (by omega)).trans rfl)
set_option maxRecDepth 100000 in
theorem EnB.frame (h : EnB W c S wo) : W.cell? ⟨c.x, 7, none⟩ = some (.int .i64 (S 0)) := by obtain ⟨r1, r2, h⟩ := h; exact (cell_of_block h).trans ((enA_st c S r1 r2 wo (o := 0) (by omega)).trans rfl)
set_option maxRecDepth 100000 in
theorem EnB.worst (h : EnB W c S wo) : W.cell? ⟨c.x, 75, none⟩ = some (.int .i64 wo) := by obtain ⟨r1, r2, h⟩ := h; exact (cell_of_block h).trans ((enA_hi c S r1 r2 wo (i := 2)).trans rfl)
set_option maxRecDepth 100000 in
theorem EnB.load (h : EnB W c S wo) : (Instr.loadAt 49 (.pointer (some ⟨c.x, 7, none⟩))).run Try.prog W = .ok (.agg (stA S)) W := by
  obtain ⟨r1, r2, h⟩ := h
  have hr : W.rangeAt c.x 7 (stA S).toList := fun i u hu => by
    have hu2 : (stA S)[i]? = some u := by rw [← Array.getElem?_toList]; exact hu
    have hi : i < 66 := by have := (Array.getElem?_eq_some_iff.1 hu2).1; rw [stA_size] at this; exact this
    rw [cell_of_block h, enA_st c S r1 r2 wo hi, ← stA_get S hi]
    exact hu2
  have hl : (Try.prog.info? 49).map (·.size) = some (stA S).toList.length := by rw [Array.length_toList, stA_size]; exact st_info
  have := run_loadAt_mid (P := Try.prog) W c.x 7 49 (stA S).toList _ hr Try.underlying49 rfl hl
  rw [Array.toArray_toList] at this
  exact this
end
attribute [local irreducible] stA blk wLoad wLoadRes loadAns wStore wStoreRes storeAns Plain
attribute [local go_sem ↓] ld_st0 sto_st0
attribute [local go_sem] sto_st stA_size st_plain storeAns_some blk_alloc_if blk_setRow_if blk_drew_at blk_drewN_at rowPut_some
section
variable {w : World} {c : EnC} {S : Nat → Int} {wo : Int}
set_option maxRecDepth 100000 in
set_option maxHeartbeats 1000000 in
theorem e_frame (h : EnB w c S wo) : Calls Try.prog 10 #[.pointer (some ⟨c.x, 0, none⟩)] w (fun e w' => e = .returned (.int .i64 (S 0)) ∧ w = w') := by
  have c7 := h.frame
  clear h
  generalize S 0 = z at *
  generalize c.x = x at *
  go_enter Try.func10, Try.ntmps10
  go_wp2_with fail
  go_ret
  exact ⟨rfl, rfl⟩
set_option maxRecDepth 100000 in
set_option maxHeartbeats 1000000 in
theorem e_worst (h : EnB w c S wo) : Calls Try.prog 9 #[.pointer (some ⟨c.x, 0, none⟩)] w (fun e w' => e = .returned (.int .i64 wo) ∧ w = w') := by
  have c7 := h.worst
  clear h
  generalize c.x = x at *
  go_enter Try.func9, Try.ntmps9
  go_wp2_with fail
  go_ret
  exact ⟨rfl, rfl⟩
set_option maxRecDepth 100000 in
set_option maxHeartbeats 1000000 in
theorem e_state (h : EnB w c S wo) : Calls Try.prog 15 #[.pointer (some ⟨c.x, 0, none⟩)] w (fun e w' => e = .returned (.agg (stA S)) ∧ Below w.heap.size w w') := by
  have hz2 := zeroState
  have hB : Below w.heap.size w (w.alloc (.cells (stA fun _ => 0) 49)) := (Below.refl _ _).alloc (Nat.le_refl _) _
  have hg0 : blk (w.alloc (.cells (stA fun _ => 0) 49)) w.heap.size = some (.cells (stA fun _ => 0) 49 (0, 0)) := blk_of (last0 _ _ _ rfl)
  have h0 : EnB (w.alloc (.cells (stA fun _ => 0) 49)) c S wo := h.keep (hB.block _ h.lt)
  have hld : (wLoad 49 (.pointer (some ⟨c.x, 7, none⟩))).run Try.prog (w.alloc (.cells (stA fun _ => 0) 49)) = .ok (.agg (stA S)) (w.alloc (.cells (stA fun _ => 0) 49)) := by rw [← ld_st0]; exact h0.load
  have hr9 := Lib.hid (setRow_heap _ _ _ (stA S) _ _ (blk_heap hg0))
  have hB9 := Lib.hid (below_setRow hB (Nat.le_refl _) (stA S))
  have hinf := st_infoA S
  clear h hB h0
  generalize c.x = x at *
  go_enter Try.func15, Try.ntmps15
  go_wp2_with fail
  refine bodyPost_ret (v := .agg (stA S)) (results_row1 rfl _ _ w.heap.size _ (stA S) (0, 0) _ rfl hr9.out Try.underlying49 rfl hinf) rfl ⟨rfl, hB9.out⟩
def EnC.pl (c : EnC) : Nat := if c.loc = 0 then c.p0 else c.p1
def EnC.pr (c : EnC) : Nat := if c.loc = 0 then c.p1 else c.p0
set_option maxRecDepth 100000 in
set_option maxHeartbeats 1000000 in
theorem e_remote (h : EnB w c S wo) (hl : c.loc < 2) : Calls Try.prog 31 #[.pointer (some ⟨c.x, 0, none⟩)] w (DrawPost w (.pointer (some ⟨c.pr, 0, none⟩))) := by
  have c1 := h.loc
  have c4 := h.p0
  have c5 := h.p1
  obtain ⟨y, hy⟩ : ∃ y, c.pr = y := ⟨_, rfl⟩
  rw [hy]
  unfold EnC.pr at hy
  rcases (show c.loc = 0 ∨ c.loc = 1 by omega) with e | e
  · rw [e] at c1
    rw [if_pos e] at hy
    rw [hy] at c5
    have c1' : w.cell? ⟨c.x, 1, none⟩ = some (.int .i64 0) := c1
    clear h hl e hy c4 c1
    generalize c.x = x at *
    go_enter Try.func31, Try.ntmps31
    go_upto_region 1 with (fail)
    go_quiet (fail)
    go_wp2_with fail
    go_ret
    exact ⟨rfl, _, rfl⟩
  · rw [e] at c1
    rw [if_neg (by omega)] at hy
    rw [hy] at c4
    have c1' : w.cell? ⟨c.x, 1, none⟩ = some (.int .i64 1) := c1
    clear h hl e hy c5 c1
    generalize c.x = x at *
    go_enter Try.func31, Try.ntmps31
    go_upto_region 1 with (fail)
    go_quiet (fail)
    go_wp2_with fail
    go_ret
    exact ⟨rfl, _, rfl⟩
set_option maxRecDepth 100000 in
set_option maxHeartbeats 1000000 in
theorem e_local (h : EnB w c S wo) (hl : c.loc < 2) : Calls Try.prog 35 #[.pointer (some ⟨c.x, 0, none⟩)] w (DrawPost w (.pointer (some ⟨c.pl, 0, none⟩))) := by
  have c1 := h.loc
  have c4 := h.p0
  have c5 := h.p1
  obtain ⟨y, hy⟩ : ∃ y, c.pl = y := ⟨_, rfl⟩
  rw [hy]
  unfold EnC.pl at hy
  rcases (show c.loc = 0 ∨ c.loc = 1 by omega) with e | e
  · rw [e] at c1
    rw [if_pos e] at hy
    rw [hy] at c4
    have c1' : w.cell? ⟨c.x, 1, none⟩ = some (.int .i64 0) := c1
    clear h hl e hy c5 c1
    generalize c.x = x at *
    go_enter Try.func35, Try.ntmps35
    go_upto_region 1 with (fail)
    go_quiet (fail)
    go_wp2_with fail
    go_ret
    exact ⟨rfl, _, rfl⟩
  · rw [e] at c1
    rw [if_neg (by omega)] at hy
    rw [hy] at c5
    have c1' : w.cell? ⟨c.x, 1, none⟩ = some (.int .i64 1) := c1
    clear h hl e hy c4 c1
    generalize c.x = x at *
    go_enter Try.func35, Try.ntmps35
    go_upto_region 1 with (fail)
    go_quiet (fail)
    go_wp2_with fail
    go_ret
    exact ⟨rfl, _, rfl⟩
end
end Go.Proofs.Ytmfagdbocidfjaa

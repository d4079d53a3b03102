import Derived.Test.YtmfagdbocidfjaaU04
/- A player's inputs as they lie in memory; the short ones of its functions. Conditions: what its blocks hold. -/
namespace Go.Proofs.Ytmfagdbocidfjaa
open Go.RowKit
/-- what a queue holds: how many frames it waits, the known ones (from kf on), the last one, the used ones (from uf on), the first one thought wrong -/
structure QuS where
  delay : Nat
  kf : Nat
  ks : List Int
  last : Int
  uf : Nat
  us : List Int
  wrong : Int
def inRow (l : List Int) : List Value := l.map fun x => .int .u16 x
/-- a queue: its block, its two rings, which lie apart -/
structure QuAt (W : World) (lo p kr ur : Nat) (kv uv : Value) (s : QuS) : Prop where
  blk : W.heap[p]? = some (.cells #[.int .i64 (s.delay : Nat), .pointer (some ⟨kr, 0, none⟩), .int .u16 s.last, .pointer (some ⟨ur, 0, none⟩), .int .i64 s.wrong] 145 (0, 0))
  known : RingIAt W lo kr 256 s.kf s.ks.length kv (inRow s.ks)
  used : RingIAt W lo ur 256 s.uf s.us.length uv (inRow s.us)
  ne : kr ≠ ur
  dj : ∀ b, kv.ownBlock = some b → uv.ownBlock ≠ some b
  lp : lo ≤ p
set_option maxRecDepth 100000 in
set_option maxHeartbeats 1000000 in
theorem qu_next (lo p kr ur : Nat) (kv uv : Value) (s : QuS) (w : World) (h : QuAt w lo p kr ur kv uv s) (hb : s.kf + s.ks.length ≤ 100000) :
    Calls Try.prog 32 #[.pointer (some ⟨p, 0, none⟩)] w (DrawPost w (.int .i64 ((s.kf + s.ks.length : Nat) : Int))) := by
  have c1 : w.cell? ⟨p, 1, none⟩ = some (.pointer (some ⟨kr, 0, none⟩)) := (cell_of_block h.blk (i := 1)).trans rfl
  have hn := Lib.hid (RingI_next lo kr 256 _ _ kv _ w h.known (by omega))
  generalize ((s.kf + s.ks.length : Nat) : Int) = z at *
  clear h hb
  go_enter Try.func32, Try.ntmps32
  go_wp2_with fail
  refine hn.out.mono ?_
  rintro e w1 ⟨rfl, q, rfl⟩
  go_wp2_with fail
  go_ret
  exact ⟨rfl, _, rfl⟩
set_option maxRecDepth 100000 in
set_option maxHeartbeats 1000000 in
theorem qu_wrong (lo p kr ur : Nat) (kv uv : Value) (s : QuS) (w : World) (h : QuAt w lo p kr ur kv uv s) :
    Calls Try.prog 38 #[.pointer (some ⟨p, 0, none⟩)] w (fun e w' => e = .returned (.int .i64 s.wrong) ∧ w = w') := by
  have c4 : w.cell? ⟨p, 4, none⟩ = some (.int .i64 s.wrong) := (cell_of_block h.blk (i := 4)).trans rfl
  clear h
  go_enter Try.func38, Try.ntmps38
  go_wp2_with fail
  go_ret
  exact ⟨rfl, rfl⟩
set_option maxRecDepth 100000 in
theorem bty_ne {W : World} {a b : Nat} {C D : Array Value} {T U : TypeId} (h1 : W.heap[a]? = some (.cells C T (0, 0))) (h2 : W.heap[b]? = some (.cells D U (0, 0))) (hne : T ≠ U) : a ≠ b := by
  rintro rfl
  rw [h1] at h2
  injection h2 with h2
  injection h2 with _ h3
  exact hne h3
set_option maxRecDepth 100000 in
theorem QuAt.setWrong {W : World} {lo p kr ur : Nat} {kv uv : Value} {s : QuS} (h : QuAt W lo p kr ur kv uv s) (z : Int) : QuAt (W.setCell ⟨p, 4, none⟩ (.int .i64 z)) lo p kr ur kv uv { s with wrong := z } := by
  have hk : ∀ b, b ≠ p → (W.setCell ⟨p, 4, none⟩ (.int .i64 z)).heap[b]? = W.heap[b]? := fun b hb => heap_setCell_other W ⟨p, 4, none⟩ b _ hb
  refine ⟨?_, h.known.keep (hk _ (bty_ne h.known.blk h.blk (by decide))) (fun b hb => hk b (h.known.row.ne h.blk (by decide) b hb)), h.used.keep (hk _ (bty_ne h.used.blk h.blk (by decide))) (fun b hb => hk b (h.used.row.ne h.blk (by decide) b hb)), h.ne, h.dj, h.lp⟩
  rw [blk_set h.blk 4 _]
  rfl
set_option maxRecDepth 100000 in
set_option maxHeartbeats 1000000 in
theorem qu_right (lo p kr ur : Nat) (kv uv : Value) (s : QuS) (w : World) (h : QuAt w lo p kr ur kv uv s) :
    Calls Try.prog 39 #[.pointer (some ⟨p, 0, none⟩)] w (fun e w' => e = .returned (.tuple #[]) ∧ w.setCell ⟨p, 4, none⟩ (.int .i64 (-1)) = w') := by
  have c4 : w.cell? ⟨p, 4, none⟩ = some (.int .i64 s.wrong) := (cell_of_block h.blk (i := 4)).trans rfl
  have f4 := frozen_of_row _ p 4 _ _ h.blk
  clear h
  go_enter Try.func39, Try.ntmps39
  go_wp2_with fail
  go_end0
  exact ⟨rfl, rfl⟩
end Go.Proofs.Ytmfagdbocidfjaa

/- What a player's input of a frame is thought to be. Conditions: what the queue's blocks hold. -/
namespace Go.Proofs.Ytmfagdbocidfjaa
open Go.RowKit
set_option maxRecDepth 100000 in
set_option maxHeartbeats 1000000 in
theorem qu_think (lo p kr ur : Nat) (kv uv : Value) (s : QuS) (j : Nat) (x : Int) (w : World) (h : QuAt w lo p kr ur kv uv s) (hb : s.kf + s.ks.length ≤ 100000) (hx : s.ks[j]? = some x) :
    Calls Try.prog 92 #[.pointer (some ⟨p, 0, none⟩), .int .i64 ((s.kf + j : Nat) : Int)] w (DrawPost w (.tuple #[.int .u16 x, .bool true, .int .i64 0])) := by
  have c1 : w.cell? ⟨p, 1, none⟩ = some (.pointer (some ⟨kr, 0, none⟩)) := (cell_of_block h.blk (i := 1)).trans rfl
  have hj := (List.getElem?_eq_some_iff.1 hx).1
  have hn := Lib.hid (RingI_at lo kr 256 _ _ kv _ j x w h.known hb hj (by unfold inRow; rw [List.getElem?_map, hx]; rfl))
  generalize ((s.kf + j : Nat) : Int) = z at *
  clear h hb hx hj
  go_enter Try.func92, Try.ntmps92
  go_wp2_with fail
  refine hn.out.mono ?_
  rintro e w1 ⟨rfl, q, rfl⟩
  go_wp2_with fail
  go_ret3
  exact ⟨rfl, _, rfl⟩
set_option maxRecDepth 100000 in
set_option maxHeartbeats 1000000 in
theorem qu_think_not (lo p kr ur : Nat) (kv uv : Value) (s : QuS) (i : Int) (w : World) (h : QuAt w lo p kr ur kv uv s) (hb : s.kf + s.ks.length ≤ 100000) (hi : (s.kf : Int) + s.ks.length ≤ i) (h0 : i ≤ 1000000) :
    Calls Try.prog 92 #[.pointer (some ⟨p, 0, none⟩), .int .i64 i] w (DrawPost w (.tuple #[.int .u16 s.last, .bool false, .int .i64 0])) := by
  have c1 : w.cell? ⟨p, 1, none⟩ = some (.pointer (some ⟨kr, 0, none⟩)) := (cell_of_block h.blk (i := 1)).trans rfl
  have c2 : w.cell? ⟨p, 2, none⟩ = some (.int .u16 s.last) := (cell_of_block h.blk (i := 2)).trans rfl
  have hn := Lib.hid (RingI_at_none lo kr 256 _ _ kv _ i w h.known hb hi h0)
  clear h hb hi h0
  go_enter Try.func92, Try.ntmps92
  go_wp2_with fail
  refine hn.out.mono ?_
  rintro e w1 ⟨rfl, q, rfl⟩
  go_wp2_with fail
  go_ret3
  exact ⟨rfl, _, rfl⟩
end Go.Proofs.Ytmfagdbocidfjaa

/- A player's inputs: what its turns leave; an input more. Conditions: what the queue's blocks hold. -/
namespace Go.Proofs.Ytmfagdbocidfjaa
open Go.RowKit
/-- the blocks of a queue -/
def quFoot (p kr ur : Nat) (kv uv : Value) (b : Nat) : Prop := b = p ∨ b = kr ∨ b = ur ∨ kv.ownBlock = some b ∨ uv.ownBlock = some b
/-- what a call leaves: the queue, and nothing else has turned -/
def QuPost (W : World) (lo p kr ur : Nat) (kv uv : Value) (s : QuS) (u : Value) (e : Ending) (W' : World) : Prop :=
  e = .returned u ∧ ∃ kv' uv', QuAt W' lo p kr ur kv' uv' s ∧ Touch W W' (quFoot p kr ur kv uv) ∧ (∀ b, kv'.ownBlock = some b → kv.ownBlock = some b ∨ W.heap.size ≤ b) ∧ (∀ b, uv'.ownBlock = some b → uv.ownBlock = some b ∨ W.heap.size ≤ b)
section
variable {W W' : World} {lo p kr ur : Nat} {kv uv kv' uv' : Value} {s : QuS}
set_option maxRecDepth 100000 in
theorem QuAt.keep (h : QuAt W lo p kr ur kv uv s) (e : ∀ b, quFoot p kr ur kv uv b → W'.heap[b]? = W.heap[b]?) : QuAt W' lo p kr ur kv uv s :=
  ⟨(e p (.inl rfl)).trans h.blk, h.known.keep (e kr (.inr (.inl rfl))) (fun b hb => e b (.inr (.inr (.inr (.inl hb))))), h.used.keep (e ur (.inr (.inr (.inl rfl)))) (fun b hb => e b (.inr (.inr (.inr (.inr hb))))), h.ne, h.dj, h.lp⟩
set_option maxRecDepth 100000 in
theorem QuAt.drewN (h : QuAt W lo p kr ur kv uv s) (q : Nat) : QuAt (W.drewN q) lo p kr ur kv uv s := h.keep fun _ _ => rfl
set_option maxRecDepth 100000 in
theorem QuAt.lt (h : QuAt W lo p kr ur kv uv s) : ∀ b, quFoot p kr ur kv uv b → b < W.heap.size := by
  rintro b (rfl | rfl | rfl | hb | hb)
  · exact (Array.getElem?_eq_some_iff.1 h.blk).1
  · exact (Array.getElem?_eq_some_iff.1 h.known.blk).1
  · exact (Array.getElem?_eq_some_iff.1 h.used.blk).1
  · exact h.known.row.blt b hb
  · exact h.used.row.blt b hb
set_option maxRecDepth 100000 in
theorem QuAt.ge (h : QuAt W lo p kr ur kv uv s) : ∀ b, quFoot p kr ur kv uv b → lo ≤ b := by
  rintro b (rfl | rfl | rfl | hb | hb)
  · exact h.lp
  · exact h.known.lr
  · exact h.used.lr
  · exact (h.known.row.lt b hb).1
  · exact (h.used.row.lt b hb).1
set_option maxRecDepth 100000 in
/-- the ring of the known ones has turned -/
theorem QuAt.knownTurn (h : QuAt W lo p kr ur kv uv s) (hT : Touch W W' (fun b => b = kr ∨ kv.ownBlock = some b)) {kf n : Nat} {ks : List Int} (hR : RingIAt W' lo kr 256 kf n kv' (inRow ks)) (hn : n = ks.length) (hf : ∀ b, kv'.ownBlock = some b → kv.ownBlock = some b ∨ W.heap.size ≤ b) :
    QuAt W' lo p kr ur kv' uv { s with kf := kf, ks := ks } := by
  subst hn
  have k1 : W'.heap[p]? = W.heap[p]? := hT.block p (h.lt p (.inl rfl)) (fun e => e.elim (fun e => bty_ne h.blk h.known.blk (by decide) e) (fun e => h.known.row.ne h.blk (by decide) p e rfl))
  have k2 : W'.heap[ur]? = W.heap[ur]? := hT.block ur (h.lt ur (.inr (.inr (.inl rfl)))) (fun e => e.elim (fun e => h.ne e.symm) (fun e => h.known.row.ne h.used.blk (by decide) ur e rfl))
  refine ⟨k1.trans h.blk, hR, h.used.keep k2 (fun b hb => hT.block b (h.used.row.blt b hb) (fun e => e.elim (fun e => h.used.row.ne h.known.blk (by decide) b hb e) (fun e => h.dj b e hb))), h.ne, fun b hb hu => ?_, h.lp⟩
  rcases hf b hb with hb | hb
  · exact h.dj b hb hu
  · have := h.used.row.blt b hu; omega
set_option maxRecDepth 100000 in
/-- the ring of the used ones has turned -/
theorem QuAt.usedTurn (h : QuAt W lo p kr ur kv uv s) (hT : Touch W W' (fun b => b = ur ∨ uv.ownBlock = some b)) {uf n : Nat} {us : List Int} (hR : RingIAt W' lo ur 256 uf n uv' (inRow us)) (hn : n = us.length) (hf : ∀ b, uv'.ownBlock = some b → uv.ownBlock = some b ∨ W.heap.size ≤ b) :
    QuAt W' lo p kr ur kv uv' { s with uf := uf, us := us } := by
  subst hn
  have k1 : W'.heap[p]? = W.heap[p]? := hT.block p (h.lt p (.inl rfl)) (fun e => e.elim (fun e => bty_ne h.blk h.used.blk (by decide) e) (fun e => h.used.row.ne h.blk (by decide) p e rfl))
  have k2 : W'.heap[kr]? = W.heap[kr]? := hT.block kr (h.lt kr (.inr (.inl rfl))) (fun e => e.elim (fun e => h.ne e) (fun e => h.used.row.ne h.known.blk (by decide) kr e rfl))
  refine ⟨k1.trans h.blk, h.known.keep k2 (fun b hb => hT.block b (h.known.row.blt b hb) (fun e => e.elim (fun e => h.known.row.ne h.used.blk (by decide) b hb e) (fun e => h.dj b hb e))), hR, h.ne, fun b hk hb => ?_, h.lp⟩
  rcases hf b hb with hb | hb
  · exact h.dj b hk hb
  · have := h.known.row.blt b hk; omega
set_option maxRecDepth 100000 in
theorem QuAt.setLast (h : QuAt W lo p kr ur kv uv s) (z : Int) : QuAt (W.setCell ⟨p, 2, none⟩ (.int .u16 z)) lo p kr ur kv uv { s with last := z } := by
  have hk : ∀ b, b ≠ p → (W.setCell ⟨p, 2, none⟩ (.int .u16 z)).heap[b]? = W.heap[b]? := fun b hb => heap_setCell_other W ⟨p, 2, none⟩ b _ hb
  refine ⟨?_, h.known.keep (hk _ (bty_ne h.known.blk h.blk (by decide))) (fun b hb => hk b (h.known.row.ne h.blk (by decide) b hb)), h.used.keep (hk _ (bty_ne h.used.blk h.blk (by decide))) (fun b hb => hk b (h.used.row.ne h.blk (by decide) b hb)), h.ne, h.dj, h.lp⟩
  rw [blk_set h.blk 2 _]
  rfl
set_option maxRecDepth 100000 in
theorem touch_set (W : World) (p i : Nat) (x : Value) : Touch W (W.setCell ⟨p, i, none⟩ x) (fun b => b = p) := Touch.grown (only_set (only_refl W (some p)) i x) (fun b hb => by injection hb with hb; exact hb.symm)
end
set_option maxRecDepth 100000 in
theorem inRow_app (a b : List Int) : inRow (a ++ b) = inRow a ++ inRow b := by unfold inRow; simp
set_option maxRecDepth 100000 in
theorem inRow_get (l : List Int) (j : Nat) (x : Int) (h : l[j]? = some x) : (inRow l)[j]? = some (.int .u16 x) := by unfold inRow; rw [List.getElem?_map, h]; rfl
/-- the first two steps of an input more -/
def addF (s : QuS) (x : Int) : QuS := { s with ks := s.ks ++ [x], last := x }
set_option maxRecDepth 100000 in
theorem QuAt.add {W W1 : World} {lo p kr ur : Nat} {kv uv kv1 : Value} {s : QuS} (h : QuAt W lo p kr ur kv uv s) (x : Int) (hR : RingIAt W1 lo kr 256 s.kf (s.ks.length + 1) kv1 (inRow s.ks ++ [.int .u16 x])) (hT : Touch W W1 (fun b => b = kr ∨ kv.ownBlock = some b)) (hf : ∀ b, kv1.ownBlock = some b → kv.ownBlock = some b ∨ W.heap.size ≤ b) :
    QuAt (W1.setCell ⟨p, 2, none⟩ (.int .u16 x)) lo p kr ur kv1 uv (addF s x) ∧ Touch W (W1.setCell ⟨p, 2, none⟩ (.int .u16 x)) (quFoot p kr ur kv uv) := by
  have h1 := h.knownTurn hT (ks := s.ks ++ [x]) (by rw [inRow_app]; exact hR) (by simp) hf
  refine ⟨h1.setLast x, (hT.mono (fun b _ hb => ?_)).trans ((touch_set W1 p 2 _).mono (fun b _ hb => .inl (.inl hb)))⟩
  rcases hb with hb | hb
  · exact .inr (.inl hb)
  · exact .inr (.inr (.inr (.inl hb)))
set_option maxRecDepth 100000 in
theorem beq_u16_ne {y x : Int} (h : y ≠ x) : decide (y ≠ x) = true := decide_eq_true h
/-- the first frame thought wrong, behind an input more -/
def wrongF (wr n y x : Int) : Int := if y = x then wr else if wr < 0 ∨ n < wr then n else wr
set_option maxRecDepth 100000 in
theorem QuPost.of {W W1 W' : World} {lo p kr ur : Nat} {kv uv kv1 : Value} {s1 : QuS} {z : Int} (hT1 : Touch W W1 (quFoot p kr ur kv uv)) (hf : ∀ b, kv1.ownBlock = some b → kv.ownBlock = some b ∨ W.heap.size ≤ b) (h : QuAt W' lo p kr ur kv1 uv s1) (hT : Touch W1 W' (fun b => b = p)) :
    QuPost W lo p kr ur kv uv s1 (.int .i64 z) (.returned (.int .i64 z)) W' :=
  ⟨rfl, _, _, h, hT1.trans (hT.mono (fun _ _ hb => .inl (.inl hb))), hf, fun _ hb => .inl hb⟩
set_option maxRecDepth 100000 in
set_option maxHeartbeats 2000000 in
theorem qu_add_new (lo p kr ur : Nat) (kv uv : Value) (s : QuS) (x : Int) (w : World) (h : QuAt w lo p kr ur kv uv s) (hlo : lo ≤ w.heap.size) (hb : s.kf + s.ks.length ≤ 10000) (hr : s.ks.length < 256) (hu : s.uf + s.us.length ≤ s.kf + s.ks.length) :
    Calls Try.prog 33 #[.pointer (some ⟨p, 0, none⟩), .int .u16 x] w (QuPost w lo p kr ur kv uv (addF s x) (.int .i64 ((s.kf + s.ks.length : Nat) : Int))) := by
  have c1 : w.cell? ⟨p, 1, none⟩ = some (.pointer (some ⟨kr, 0, none⟩)) := (cell_of_block h.blk (i := 1)).trans rfl
  have hput := Lib.hid (RingI_put lo kr 256 _ _ kv _ x w h.known (by omega) hr (by omega) hlo)
  have hh := Lib.hid h
  have hub : Hid (s.uf + s.us.length ≤ 100000) := hide (by omega)
  have huc : Hid ((s.uf : Int) + s.us.length ≤ ((s.kf + s.ks.length : Nat) : Int)) := hide (by omega)
  have hn0 : Hid (((s.kf + s.ks.length : Nat) : Int) ≤ 1000000) := hide (by omega)
  generalize ((s.kf + s.ks.length : Nat) : Int) = z at *
  clear h hlo hb hr hu
  go_enter Try.func33, Try.ntmps33
  go_wp2_with fail
  refine hput.out.mono ?_
  rintro e w1 ⟨rfl, kv1, hR, hT, hf⟩
  obtain ⟨h1, hT1⟩ := hh.out.add x hR hT hf
  have hk1 := hh.out.knownTurn hT (ks := s.ks ++ [x]) (by rw [inRow_app]; exact hR) (by simp) hf
  have cL : w1.cell? ⟨p, 2, none⟩ = some (.int .u16 s.last) := (cell_of_block hk1.blk (i := 2)).trans rfl
  have fL := frozen_of_row _ p 2 _ _ hk1.blk
  have hfh := Lib.hid hf
  have h1h := Lib.hid h1
  have hT1h := Lib.hid hT1
  clear hput hR hT hf h1 hT1 hk1 c1
  go_upto_region 3 with (fail)
  clear cL fL
  generalize World.setCell w1 _ _ = w2 at *
  have c3 : w2.cell? ⟨p, 3, none⟩ = some (.pointer (some ⟨ur, 0, none⟩)) := (cell_of_block h1h.out.blk (i := 3)).trans rfl
  have hat := Lib.hid (RingI_at_none lo ur 256 s.uf s.us.length uv (inRow s.us) z w2 h1h.out.used hub.out huc.out hn0.out)
  go_wp2_with fail
  refine hat.out.mono ?_
  rintro e w3 ⟨rfl, q, rfl⟩
  have hend : Hid (QuPost w lo p kr ur kv uv (addF s x) (.int .i64 z) (.returned (.int .i64 z)) (w2.drewN q)) := hide (QuPost.of hT1h.out hfh.out (h1h.out.drewN q) ((Touch.refl w2 _).drewN q))
  go_wp2_with fail
  go_ret
  exact hend.out
set_option maxRecDepth 100000 in
set_option maxHeartbeats 2000000 in
theorem qu_add_used (lo p kr ur : Nat) (kv uv : Value) (s : QuS) (x y : Int) (j : Nat) (w : World) (h : QuAt w lo p kr ur kv uv s) (hlo : lo ≤ w.heap.size) (hb : s.kf + s.ks.length ≤ 10000) (hr : s.ks.length < 256) (hu : s.uf + s.us.length ≤ 10000) (hj : s.us[j]? = some y) (hn : s.kf + s.ks.length = s.uf + j) :
    Calls Try.prog 33 #[.pointer (some ⟨p, 0, none⟩), .int .u16 x] w (QuPost w lo p kr ur kv uv { addF s x with wrong := wrongF s.wrong ((s.kf + s.ks.length : Nat) : Int) y x } (.int .i64 ((s.kf + s.ks.length : Nat) : Int))) := by
  have c1 : w.cell? ⟨p, 1, none⟩ = some (.pointer (some ⟨kr, 0, none⟩)) := (cell_of_block h.blk (i := 1)).trans rfl
  have hput := Lib.hid (RingI_put lo kr 256 _ _ kv _ x w h.known (by omega) hr (by omega) hlo)
  have hh := Lib.hid h
  have hub : Hid (s.uf + s.us.length ≤ 100000) := hide (by omega)
  have hjl := Lib.hid (List.getElem?_eq_some_iff.1 hj).1
  have hj2 := Lib.hid (inRow_get _ _ _ hj)
  have hzn : Hid (((s.kf + s.ks.length : Nat) : Int) = ((s.uf + j : Nat) : Int)) := hide (by rw [hn])
  generalize ((s.kf + s.ks.length : Nat) : Int) = z at *
  clear h hlo hb hr hu hn hj
  go_enter Try.func33, Try.ntmps33
  go_wp2_with fail
  refine hput.out.mono ?_
  rintro e w1 ⟨rfl, kv1, hR, hT, hf⟩
  obtain ⟨h1, hT1⟩ := hh.out.add x hR hT hf
  have hk1 := hh.out.knownTurn hT (ks := s.ks ++ [x]) (by rw [inRow_app]; exact hR) (by simp) hf
  have cL : w1.cell? ⟨p, 2, none⟩ = some (.int .u16 s.last) := (cell_of_block hk1.blk (i := 2)).trans rfl
  have fL := frozen_of_row _ p 2 _ _ hk1.blk
  have hfh := Lib.hid hf
  have h1h := Lib.hid h1
  have hT1h := Lib.hid hT1
  clear hput hR hT hf h1 hT1 hk1 c1
  go_upto_region 3 with (fail)
  clear cL fL
  generalize World.setCell w1 _ _ = w2 at *
  have c3 : w2.cell? ⟨p, 3, none⟩ = some (.pointer (some ⟨ur, 0, none⟩)) := (cell_of_block h1h.out.blk (i := 3)).trans rfl
  have hat := Lib.hid (RingI_at lo ur 256 s.uf s.us.length uv (inRow s.us) j y w2 h1h.out.used hub.out hjl.out hj2.out)
  rw [← hzn.out] at hat
  go_wp2_with fail
  refine hat.out.mono ?_
  rintro e w3 ⟨rfl, q, rfl⟩
  have h3 := Lib.hid (h1h.out.drewN q)
  have hT3 : Hid (Touch w (w2.drewN q) (quFoot p kr ur kv uv)) := hide (hT1h.out.drewN q)
  clear h1h hT1h hat c3
  generalize w2.drewN q = w3 at *
  by_cases hyx : y = x
  · subst hyx
    have hend : Hid (QuPost w lo p kr ur kv uv { addF s y with wrong := wrongF s.wrong z y y } (.int .i64 z) (.returned (.int .i64 z)) w3) := hide (QuPost.of hT3.out hfh.out (by unfold wrongF; rw [if_pos rfl]; exact h3.out) (Touch.refl w3 _))
    have d1 : decide (y ≠ y) = false := decide_eq_false (by simp)
    go_wp2_with fail
    go_ret
    exact hend.out
  · have d1 : decide (y ≠ x) = true := decide_eq_true hyx
    have d2 : (y != x) = true := by simp [hyx]
    have d3 : (y == x) = false := by simp [hyx]
    have c4 : w3.cell? ⟨p, 4, none⟩ = some (.int .i64 s.wrong) := (cell_of_block h3.out.blk (i := 4)).trans rfl
    have f4 := frozen_of_row _ p 4 _ _ h3.out.blk
    have hset := Lib.hid (h3.out.setWrong z)
    by_cases h0 : s.wrong < 0
    · have d0 : decide (s.wrong < 0) = true := decide_eq_true h0
      have hend : Hid (QuPost w lo p kr ur kv uv { addF s x with wrong := wrongF s.wrong z y x } (.int .i64 z) (.returned (.int .i64 z)) (w3.setCell ⟨p, 4, none⟩ (.int .i64 z))) := hide (QuPost.of hT3.out hfh.out (by unfold wrongF; rw [if_neg hyx, if_pos (.inl h0)]; exact hset.out) (touch_set w3 p 4 _))
      go_wp2_with fail
      go_ret
      exact hend.out
    · have d0 : decide (s.wrong < 0) = false := decide_eq_false h0
      by_cases h4 : z < s.wrong
      · have d4 : decide (z < s.wrong) = true := decide_eq_true h4
        have hend : Hid (QuPost w lo p kr ur kv uv { addF s x with wrong := wrongF s.wrong z y x } (.int .i64 z) (.returned (.int .i64 z)) (w3.setCell ⟨p, 4, none⟩ (.int .i64 z))) := hide (QuPost.of hT3.out hfh.out (by unfold wrongF; rw [if_neg hyx, if_pos (.inr h4)]; exact hset.out) (touch_set w3 p 4 _))
        go_wp2_with fail
        go_ret
        exact hend.out
      · have d4 : decide (z < s.wrong) = false := decide_eq_false h4
        have hend : Hid (QuPost w lo p kr ur kv uv { addF s x with wrong := wrongF s.wrong z y x } (.int .i64 z) (.returned (.int .i64 z)) w3) := hide (QuPost.of hT3.out hfh.out (by unfold wrongF; rw [if_neg hyx, if_neg (by omega)]; exact h3.out) (Touch.refl w3 _))
        go_wp2_with fail
        go_ret
        exact hend.out
end Go.Proofs.Ytmfagdbocidfjaa

/- A player's inputs: one is used, some are dropped. Conditions: what the queue's blocks hold. -/
namespace Go.Proofs.Ytmfagdbocidfjaa
open Go.RowKit
/-- what the input of a frame is thought to be, and whether it is known -/
def ThinkIs (s : QuS) (i : Int) (v : Int) (k : Bool) : Prop := (∃ j, s.ks[j]? = some v ∧ i = ((s.kf + j : Nat) : Int) ∧ k = true) ∨ ((s.kf : Int) + s.ks.length ≤ i ∧ v = s.last ∧ k = false)
set_option maxRecDepth 100000 in
theorem qu_think_any (lo p kr ur : Nat) (kv uv : Value) (s : QuS) (i v : Int) (k : Bool) (w : World) (h : QuAt w lo p kr ur kv uv s) (hb : s.kf + s.ks.length ≤ 10000) (h0 : i ≤ 1000000) (hv : ThinkIs s i v k) :
    Calls Try.prog 92 #[.pointer (some ⟨p, 0, none⟩), .int .i64 i] w (DrawPost w (.tuple #[.int .u16 v, .bool k, .int .i64 0])) := by
  rcases hv with ⟨j, hj, rfl, rfl⟩ | ⟨h1, rfl, rfl⟩
  · exact qu_think lo p kr ur kv uv s j v w h (by omega) hj
  · exact qu_think_not lo p kr ur kv uv s i w h (by omega) h1 h0
set_option maxRecDepth 100000 in
theorem inRow_set (l : List Int) (j : Nat) (x : Int) : inRow (l.set j x) = (inRow l).set j (.int .u16 x) := by unfold inRow; rw [List.map_set]
set_option maxRecDepth 100000 in
set_option maxHeartbeats 2000000 in
theorem qu_use_new (lo p kr ur : Nat) (kv uv : Value) (s : QuS) (v : Int) (k : Bool) (hi : s.us.length < 256) (w : World) (h : QuAt w lo p kr ur kv uv s) (hlo : lo ≤ w.heap.size) (hb : s.kf + s.ks.length ≤ 10000) (hu : s.uf + s.us.length ≤ 10000) (hv : ThinkIs s ((s.uf + s.us.length : Nat) : Int) v k) :
    Calls Try.prog 73 #[.pointer (some ⟨p, 0, none⟩), .int .i64 ((s.uf + s.us.length : Nat) : Int)] w (QuPost w lo p kr ur kv uv { s with us := s.us ++ [v] } (.tuple #[.int .u16 v, .bool k, .int .i64 0])) := by
  have hh := Lib.hid h
  have c3 : w.cell? ⟨p, 3, none⟩ = some (.pointer (some ⟨ur, 0, none⟩)) := (cell_of_block h.blk (i := 3)).trans rfl
  have hnx := Lib.hid (RingI_next lo ur 256 s.uf s.us.length uv (inRow s.us) w h.used (by omega))
  have hih := Lib.hid hi
  have huh : Hid (s.uf + s.us.length ≤ 1000000) := hide (by omega)
  have hth := Lib.hid (fun q => qu_think_any lo p kr ur kv uv s _ v k (w.drewN q) (h.drewN q) (by omega) (by omega) hv)
  obtain ⟨z, hz⟩ : ∃ z : Int, ((s.uf + s.us.length : Nat) : Int) = z := ⟨_, rfl⟩
  obtain ⟨m, hm⟩ : ∃ m : Int, ((s.uf + s.us.length : Nat) : Int) = m := ⟨_, rfl⟩
  have hzm : z = m := by omega
  have hzh := Lib.hid hz
  have hmh := Lib.hid hm
  have hloh := Lib.hid hlo
  rw [hz] at hth ⊢
  rw [hm] at hnx
  clear hz hm h hi hv hb hu hlo
  obtain rfl := hzm
  have d0 : decide (z < z) = false := decide_eq_false (by omega)
  have d1 : (z == z) = true := by simp
  go_enter Try.func73, Try.ntmps73
  go_wp2_with fail
  refine hnx.out.mono ?_
  rintro e w1 ⟨rfl, q, rfl⟩
  have c3q : (w.drewN q).cell? ⟨p, 3, none⟩ = some (.pointer (some ⟨ur, 0, none⟩)) := c3
  go_wp2_with fail
  refine (hth.out q).mono ?_
  rintro e w1 ⟨rfl, q2, rfl⟩
  have hh2 := Lib.hid ((hh.out.drewN q).drewN q2)
  have hT2 : Hid (Touch w ((w.drewN q).drewN q2) (quFoot p kr ur kv uv)) := hide (((Touch.refl w _).drewN q).drewN q2)
  have hl2 : Hid (lo ≤ ((w.drewN q).drewN q2).heap.size) := hide hloh.out
  clear hth hnx c3 c3q hh hloh
  generalize (w.drewN q).drewN q2 = w2 at *
  have c3 : w2.cell? ⟨p, 3, none⟩ = some (.pointer (some ⟨ur, 0, none⟩)) := (cell_of_block hh2.out.blk (i := 3)).trans rfl
  have hnx := Lib.hid (RingI_next lo ur 256 s.uf s.us.length uv (inRow s.us) w2 hh2.out.used (by have := huh.out; omega))
  rw [hmh.out] at hnx
  go_wp2_with fail
  refine hnx.out.mono ?_
  rintro e w1 ⟨rfl, q3, rfl⟩
  have hh3 := Lib.hid (hh2.out.drewN q3)
  have hT3 : Hid (Touch w (w2.drewN q3) (quFoot p kr ur kv uv)) := hide (hT2.out.drewN q3)
  have hl3 : Hid (lo ≤ (w2.drewN q3).heap.size) := hide hl2.out
  clear hnx c3 hh2 hT2 hl2
  generalize w2.drewN q3 = w3 at *
  have c3 : w3.cell? ⟨p, 3, none⟩ = some (.pointer (some ⟨ur, 0, none⟩)) := (cell_of_block hh3.out.blk (i := 3)).trans rfl
  have hop := Lib.hid (RingI_put lo ur 256 s.uf s.us.length uv (inRow s.us) v w3 hh3.out.used (by have := huh.out; omega) hih.out (by omega) hl3.out)
  go_wp2_with fail
  refine hop.out.mono ?_
  rintro e w4 ⟨rfl, uv1, hR, hT, hf⟩
  have hk := hh3.out.usedTurn hT (us := s.us ++ [v]) (by rw [inRow_app]; exact hR) (by simp) hf
  have hend : Hid (QuPost w lo p kr ur kv uv { s with us := s.us ++ [v] } (.tuple #[.int .u16 v, .bool k, .int .i64 0]) (.returned (.tuple #[.int .u16 v, .bool k, .int .i64 0])) w4) :=
    hide ⟨rfl, _, _, hk, hT3.out.trans (hT.mono (fun b _ hb => .inl (hb.elim (fun e => .inr (.inr (.inl e))) (fun e => .inr (.inr (.inr (.inr e)))))) ), fun _ hb => .inl hb, fun b hb => (hf b hb).imp id (fun e => Nat.le_trans hT3.out.size e)⟩
  clear hR hT hf hk hop c3
  go_wp2_with fail
  go_ret3
  exact hend.out
set_option maxRecDepth 100000 in
set_option maxHeartbeats 2000000 in
theorem qu_use_set (lo p kr ur : Nat) (kv uv : Value) (s : QuS) (v : Int) (k : Bool) (j : Nat) (y : Int) (hi : s.us[j]? = some y) (w : World) (h : QuAt w lo p kr ur kv uv s) (hlo : lo ≤ w.heap.size) (hb : s.kf + s.ks.length ≤ 10000) (hu : s.uf + s.us.length ≤ 10000) (hv : ThinkIs s ((s.uf + j : Nat) : Int) v k) :
    Calls Try.prog 73 #[.pointer (some ⟨p, 0, none⟩), .int .i64 ((s.uf + j : Nat) : Int)] w (QuPost w lo p kr ur kv uv { s with us := s.us.set j v } (.tuple #[.int .u16 v, .bool k, .int .i64 0])) := by
  have hh := Lib.hid h
  have c3 : w.cell? ⟨p, 3, none⟩ = some (.pointer (some ⟨ur, 0, none⟩)) := (cell_of_block h.blk (i := 3)).trans rfl
  have hnx := Lib.hid (RingI_next lo ur 256 s.uf s.us.length uv (inRow s.us) w h.used (by omega))
  have hjl := (List.getElem?_eq_some_iff.1 hi).1
  have hj2 := Lib.hid (inRow_get _ _ _ hi)
  have hjh := Lib.hid hjl
  have huh : Hid (s.uf + s.us.length ≤ 100000) := hide (by omega)
  have hth := Lib.hid (fun q => qu_think_any lo p kr ur kv uv s _ v k (w.drewN q) (h.drewN q) (by omega) (by omega) hv)
  obtain ⟨z, hz⟩ : ∃ z : Int, ((s.uf + j : Nat) : Int) = z := ⟨_, rfl⟩
  obtain ⟨m, hm⟩ : ∃ m : Int, ((s.uf + s.us.length : Nat) : Int) = m := ⟨_, rfl⟩
  have hzm : z < m := by omega
  have hzh := Lib.hid hz
  have hmh := Lib.hid hm
  have hloh := Lib.hid hlo
  rw [hz] at hth ⊢
  rw [hm] at hnx
  clear hz hm h hi hv hb hu hlo hjl
  have d0 : decide (m < z) = false := decide_eq_false (by omega)
  have d1 : (z == m) = false := by simp; omega
  have d2 : decide (z = m) = false := decide_eq_false (by omega)
  go_enter Try.func73, Try.ntmps73
  go_wp2_with fail
  refine hnx.out.mono ?_
  rintro e w1 ⟨rfl, q, rfl⟩
  have c3q : (w.drewN q).cell? ⟨p, 3, none⟩ = some (.pointer (some ⟨ur, 0, none⟩)) := c3
  go_wp2_with fail
  refine (hth.out q).mono ?_
  rintro e w1 ⟨rfl, q2, rfl⟩
  have hh2 := Lib.hid ((hh.out.drewN q).drewN q2)
  have hT2 : Hid (Touch w ((w.drewN q).drewN q2) (quFoot p kr ur kv uv)) := hide (((Touch.refl w _).drewN q).drewN q2)
  have hl2 : Hid (lo ≤ ((w.drewN q).drewN q2).heap.size) := hide hloh.out
  clear hth hnx c3 c3q hh hloh
  generalize (w.drewN q).drewN q2 = w2 at *
  have c3 : w2.cell? ⟨p, 3, none⟩ = some (.pointer (some ⟨ur, 0, none⟩)) := (cell_of_block hh2.out.blk (i := 3)).trans rfl
  have hnx := Lib.hid (RingI_next lo ur 256 s.uf s.us.length uv (inRow s.us) w2 hh2.out.used (by have := huh.out; omega))
  rw [hmh.out] at hnx
  go_wp2_with fail
  refine hnx.out.mono ?_
  rintro e w1 ⟨rfl, q3, rfl⟩
  have hh3 := Lib.hid (hh2.out.drewN q3)
  have hT3 : Hid (Touch w (w2.drewN q3) (quFoot p kr ur kv uv)) := hide (hT2.out.drewN q3)
  have hl3 : Hid (lo ≤ (w2.drewN q3).heap.size) := hide hl2.out
  clear hnx c3 hh2 hT2 hl2
  generalize w2.drewN q3 = w3 at *
  have c3 : w3.cell? ⟨p, 3, none⟩ = some (.pointer (some ⟨ur, 0, none⟩)) := (cell_of_block hh3.out.blk (i := 3)).trans rfl
  obtain ⟨b, off, cap, rfl⟩ : ∃ b off cap, uv = .slice (some ⟨b, off, none⟩) s.us.length cap := by
    rcases hh3.out.used.row.2.2 with ⟨_, h0⟩ | ⟨b, off, cap, C, e, _⟩
    · have := hjh.out; omega
    · exact ⟨b, off, cap, e⟩
  have hop := Lib.hid (RingI_set lo ur 256 s.uf s.us.length b off cap (inRow s.us) j v y w3 hh3.out.used huh.out hjh.out hj2.out)
  rw [hzh.out] at hop
  go_wp2_with fail
  refine hop.out.mono ?_
  rintro e w4 ⟨rfl, uv1, hR, hT, hf⟩
  have hk := hh3.out.usedTurn hT (us := s.us.set j v) (by rw [inRow_set]; exact hR) (by simp) hf
  have hend : Hid (QuPost w lo p kr ur kv (.slice (some ⟨b, off, none⟩) s.us.length cap) { s with us := s.us.set j v } (.tuple #[.int .u16 v, .bool k, .int .i64 0]) (.returned (.tuple #[.int .u16 v, .bool k, .int .i64 0])) w4) :=
    hide ⟨rfl, _, _, hk, hT3.out.trans (hT.mono (fun b _ hb => .inl (hb.elim (fun e => .inr (.inr (.inl e))) (fun e => .inr (.inr (.inr (.inr e)))))) ), fun _ hb => .inl hb, fun b hb => (hf b hb).imp id (fun e => Nat.le_trans hT3.out.size e)⟩
  clear hR hT hf hk hop c3
  go_wp2_with fail
  go_ret3
  exact hend.out
end Go.Proofs.Ytmfagdbocidfjaa

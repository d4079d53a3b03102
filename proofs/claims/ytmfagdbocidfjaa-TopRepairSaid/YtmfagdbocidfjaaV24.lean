import Derived.Test.YtmfagdbocidfjaaV01
import Derived.ArgAppend
import Derived.Laws.OwnMore
import Derived.Test.YtmfagdbocidfjaaV23
/- Rows whose elements are of any kind: a slice that reads as a list of cells, appended to. Lemmas alone. -/
namespace Go.Proofs.Ytmfagdbocidfjaa
open Go.RowKit
set_option maxRecDepth 100000 in
/-- cells set one by one -/
theorem setCells_blk (b : Nat) (T : TypeId) : ∀ (vs : List Value) (o : Nat) (w : World) (C : Array Value), w.heap[b]? = some (.cells C T (0, 0)) →
    ∃ C', (w.setCells b o vs).heap[b]? = some (.cells C' T (0, 0)) ∧ C'.size = C.size ∧ (∀ j, j < o ∨ o + vs.length ≤ j → C'[j]? = C[j]?) ∧ (∀ j, j < vs.length → o + j < C.size → C'[o + j]? = vs[j]?) ∧ w.grownBy (w.setCells b o vs) (some b)
  | [], o, w, C, h => ⟨C, h, rfl, fun _ _ => rfl, fun j hj => absurd hj (by simp), only_refl w _⟩
  | v :: vs, o, w, C, h => by
    have h1 := blk_set h o v
    obtain ⟨C', g1, g2, g3, g4, g5⟩ := setCells_blk b T vs (o + 1) (w.setCell ⟨b, o, none⟩ v) _ h1
    refine ⟨C', g1, by rw [g2]; simp, fun j hj => ?_, fun j hj hc => ?_, only_trans (only_set (only_refl w (some b)) o v) g5⟩
    · rw [g3 j (by simp only [List.length_cons] at hj; omega)]
      rw [Array.getElem?_setIfInBounds]
      rw [if_neg (by simp only [List.length_cons] at hj; omega)]
    · rcases j with _ | j
      · rw [g3 (o + 0) (by omega)]
        rw [Array.getElem?_setIfInBounds, if_pos (by omega)]
        simp
        omega
      · have := g4 j (by simp only [List.length_cons] at hj; omega) (by simp; omega)
        rw [show o + (j + 1) = o + 1 + j by omega, this]
        simp
/-- a slice of n elements of sz cells each, whose cells are xs: in one block, from some place on, with room as its capacity says -/
def VAt (W : World) (lo : Nat) (T : TypeId) (sz : Nat) (v : Value) (n : Nat) (xs : List Value) : Prop :=
  xs.length = n * sz ∧ (∀ u ∈ xs, u.oneCell' = true) ∧ ((v = .slice none 0 0 ∧ n = 0) ∨ ∃ b off cap C, v = .slice (some ⟨b, off, none⟩) n cap ∧ lo ≤ b ∧ W.heap[b]? = some (.cells C T (0, 0)) ∧ n ≤ cap ∧ cap ≤ maxLen ∧ (0 < cap → off + cap * sz ≤ C.size) ∧ ∀ j u, xs[j]? = some u → C[off + j]? = some u)
section
variable {W W' : World} {lo : Nat} {T : TypeId} {sz : Nat} {v : Value} {n : Nat} {xs : List Value}
set_option maxRecDepth 100000 in
theorem VAt.nil (W : World) (lo : Nat) (T : TypeId) (sz : Nat) : VAt W lo T sz (.slice none 0 0) 0 [] := ⟨by simp, by simp, .inl ⟨rfl, rfl⟩⟩
set_option maxRecDepth 100000 in
theorem VAt.kept (h : VAt W lo T sz v n xs) (e : ∀ b, v.ownBlock = some b → W'.heap[b]? = W.heap[b]?) : VAt W' lo T sz v n xs := by
  refine ⟨h.1, h.2.1, ?_⟩
  rcases h.2.2 with h | ⟨b, off, cap, C, rfl, h2, h3, h4⟩
  · exact .inl h
  · exact .inr ⟨b, off, cap, C, rfl, h2, (e b rfl).trans h3, h4⟩
set_option maxRecDepth 100000 in
theorem VAt.lt (h : VAt W lo T sz v n xs) : ∀ b, v.ownBlock = some b → lo ≤ b ∧ ∃ C, W.heap[b]? = some (.cells C T (0, 0)) := by
  intro b hb
  rcases h.2.2 with ⟨rfl, _⟩ | ⟨b', off, cap, C, rfl, h2, h3, _⟩
  · cases hb
  · injection hb with hb
    subst hb
    exact ⟨h2, C, h3⟩
set_option maxRecDepth 100000 in
theorem VAt.blt (h : VAt W lo T sz v n xs) : ∀ b, v.ownBlock = some b → b < W.heap.size := fun b hb => by
  obtain ⟨_, C, hC⟩ := h.lt b hb
  exact (Array.getElem?_eq_some_iff.1 hC).1
set_option maxRecDepth 100000 in
theorem VAt.below (h : VAt W lo T sz v n xs) (hb : Below W.heap.size W W') : VAt W' lo T sz v n xs := h.kept (fun b hb' => hb.block b (h.blt b hb'))
set_option maxRecDepth 100000 in
theorem VAt.form (h : VAt W lo T sz v n xs) : ∃ s cap, v = .slice s n cap ∧ n ≤ cap ∧ cap ≤ maxLen := by
  rcases h.2.2 with ⟨rfl, rfl⟩ | ⟨b, off, cap, C, rfl, _, _, h4, h5, _⟩
  · exact ⟨_, _, rfl, Nat.le_refl _, by unfold maxLen; omega⟩
  · exact ⟨_, _, rfl, h4, h5⟩
set_option maxRecDepth 100000 in
theorem VAt.cells (h : VAt W lo T sz v n xs) {b off k cap : Nat} (hv : v = .slice (some ⟨b, off, none⟩) k cap) : ∀ j u, xs[j]? = some u → W.cell? ⟨b, off + j, none⟩ = some u := fun j u hj => by
  rcases h.2.2 with ⟨rfl, _⟩ | ⟨b', off', cap', C, rfl, _, h3, _, _, _, h7⟩
  · cases hv
  · injection hv with hv
    injection hv with hv
    injection hv with e1 e2
    subst e1 e2
    rw [cell_of_block h3]
    exact h7 j u hj
set_option maxRecDepth 100000 in
theorem VAt.base (h : VAt W lo T sz v n xs) {lo' : Nat} (hl : lo' ≤ lo) : VAt W lo' T sz v n xs := by
  refine ⟨h.1, h.2.1, ?_⟩
  rcases h.2.2 with h | ⟨b, off, cap, C, rfl, h2, h3⟩
  · exact .inl h
  · exact .inr ⟨b, off, cap, C, rfl, by omega, h3⟩
set_option maxRecDepth 100000 in
theorem VAt.own (h : W.ownsRow lo T sz v n xs) (h1 : ∀ u ∈ xs, u.oneCell' = true) : VAt W lo T sz v n xs := by
  refine ⟨h.1, h1, ?_⟩
  rcases h.2 with h2 | ⟨b, cap, cur, rfl, hb, hcur, hle, hcm, hcs, htk⟩
  · exact .inl h2
  · refine .inr ⟨b, 0, cap, cur, rfl, hb, hcur, hle, hcm, fun _ => by omega, fun j u hj => ?_⟩
    rw [← htk, List.getElem?_take] at hj
    split at hj
    · rw [Nat.zero_add, ← Array.getElem?_toList]; exact hj
    · cases hj
end
set_option maxRecDepth 100000 in
/-- append(v, ..): the cells ys of m elements, which lie at ad -/
theorem v_app {P : Program} {S T : TypeId} {z : Value} {sz bytes : Nat} (hS : P.underlying S = some (.slice T)) (hI : (P.info? T).map (fun i => (i.zero, i.size, i.bytes)) = some (some z, sz, bytes)) (hzs : z.cells.size = sz) (hsz : 0 < sz) (hby : bytes ≤ 10000)
    {W : World} {lo : Nat} {v : Value} {n : Nat} {xs : List Value} (h : VAt W lo T sz v n xs) (hlo : lo ≤ W.heap.size) (ad : Addr) (m c : Nat) (ys : List Value) (hl : ys.length = m * sz) (hnews : ∀ j u, ys[j]? = some u → W.cell? (ad.add j) = some u) (h1c : ∀ u ∈ ys, u.oneCell' = true) (hnm : n + m ≤ 1000000) (ty : TypeId) :
    ∃ v' W', (Builtin.append_ #[S, S] ty #[v, .slice (some ad) m c]).run P W = .ok v' W' ∧ VAt W' lo T sz v' (n + m) (xs ++ ys) ∧ W.grownBy W' v.ownBlock ∧ (∀ b, v'.ownBlock = some b → v.ownBlock = some b ∨ W.heap.size ≤ b) ∧
      ((∀ s k cap, v = .slice s k cap → cap < n + m) → Below W.heap.size W W' ∧ ∀ b, v'.ownBlock = some b → W.heap.size ≤ b) := by
  obtain ⟨i0, hi, hz0, hz1, hz2⟩ : ∃ i, P.info? T = some i ∧ i.zero = some z ∧ i.size = sz ∧ i.bytes = bytes := by
    rcases hh : P.info? T with _ | i
    · rw [hh] at hI; cases hI
    · rw [hh] at hI
      simp only [Option.map_some, Option.some.injEq, Prod.mk.injEq] at hI
      exact ⟨i, rfl, hI.1, hI.2.1, hI.2.2⟩
  have h1 : ∀ u ∈ xs ++ ys, u.oneCell' = true := fun u hu => by
    rcases List.mem_append.1 hu with hu | hu
    · exact h.2.1 u hu
    · exact h1c u hu
  have hbyt : (n + m) * bytes ≤ 140737488355328 := Nat.le_trans (Nat.mul_le_mul hnm hby) (by omega)
  have hbel : ∀ W', W.grownBy W' none → Below W.heap.size W W' := fun W' hg => ⟨hg.os, hg.tape, hg.output, hg.size, fun i hi => hg.block i hi (by simp)⟩
  have hnb : ∀ W', W.grownBy W' none → W.grownBy W' v.ownBlock := fun W' hg => ⟨hg.os, hg.tape, hg.output, hg.size, fun i hi _ => hg.block i hi (by simp)⟩
  have hlen := h.1
  rcases h.2.2 with ⟨rfl, rfl⟩ | ⟨b, off, cap, C, rfl, h2, h3, h4, h5, h6, h7⟩
  · obtain rfl : xs = [] := List.length_eq_zero_iff.1 (by simpa using hlen)
    obtain ⟨v', W', hr, ho, hgr, _⟩ := run_append_own (P := P) W W.heap.size S ty T i0 z sz bytes hS hi hz0 hz1 hz2 hzs hsz _ 0 _ (World.ownsRow_nil _ _ _ _) ad m c ys hl hnews h1c (by unfold maxLen; omega) hbyt (Nat.le_refl _)
    exact ⟨v', W', hr, (VAt.own ho h1).base hlo, hgr, fun p hp => .inr ((VAt.own ho h1).lt p hp).1, fun _ => ⟨hbel _ hgr, fun p hp => ((VAt.own ho h1).lt p hp).1⟩⟩
  · by_cases hroom : n + m ≤ cap
    · have hle : n * sz + m * sz ≤ cap * sz := by rw [← Nat.add_mul]; exact Nat.mul_le_mul_right _ hroom
      have hr := run_append_room_cells (P := P) W S ty T i0 hS hi b off n cap ad m c ys (by rw [hl, hz1]) hnews h1c hroom
        (fun j hj => by
          rw [hl] at hj
          have hsz2 := h6 (by
            rcases Nat.eq_zero_or_pos cap with e | e
            · subst e
              obtain rfl : m = 0 := by omega
              omega
            · exact e)
          rw [hz1, cell_of_block h3]; simp; omega) (fun j _ => frozen_of_row _ _ _ _ _ h3)
      rw [hz1] at hr
      obtain ⟨C', g1, g2, g3, g4, g5⟩ := setCells_blk b _ ys (off + n * sz) W C h3
      refine ⟨_, _, hr, ⟨by rw [List.length_append, hlen, hl, Nat.add_mul], h1, .inr ⟨b, off, cap, C', rfl, h2, g1, hroom, h5, fun hc => by rw [g2]; exact h6 hc, fun j u hj => ?_⟩⟩, g5, fun p hp => .inl hp, fun hno => absurd (hno _ _ _ rfl) (by omega)⟩
      by_cases hjl : j < n * sz
      · rw [List.getElem?_append_left (by rw [hlen]; exact hjl)] at hj
        rw [g3 _ (.inl (by omega))]
        exact h7 j u hj
      · rw [List.getElem?_append_right (by rw [hlen]; omega), hlen] at hj
        have hj2 := (List.getElem?_eq_some_iff.1 hj).1
        have hj3 := hj2
        rw [hl] at hj3
        have hsz2 := h6 (by
          rcases Nat.eq_zero_or_pos cap with e | e
          · subst e
            obtain rfl : m = 0 := by omega
            omega
          · exact e)
        have := g4 (j - n * sz) hj2 (by omega)
        rw [show off + n * sz + (j - n * sz) = off + j by omega] at this
        rw [this]
        exact hj
    · obtain ⟨v', W', hr, ho, hgr⟩ := run_append_arg_grows (P := P) W S ty T i0 z sz bytes hS hi hz0 hz1 hz2 hzs hsz ⟨b, off, none⟩ n cap xs hlen
        (fun j u hj => by
          have : W.cell? ⟨b, off + j, none⟩ = some u := by rw [cell_of_block h3]; exact h7 j u hj
          by_cases hj0 : j = 0
          · subst hj0; simpa [Addr.add] using this
          · simpa [Addr.add, hj0] using this) ad m c ys hl hnews (by omega) (by unfold maxLen; omega) hbyt
      exact ⟨v', W', hr, (VAt.own ho h1).base hlo, hnb _ hgr, fun p hp => .inr ((VAt.own ho h1).lt p hp).1, fun _ => ⟨hbel _ hgr, fun p hp => ((VAt.own ho h1).lt p hp).1⟩⟩
end Go.Proofs.Ytmfagdbocidfjaa

/- word.Put16 behind nothing, and the document's Bytes of two: a row of two bytes. Conditions: a number below 65536. -/
namespace Go.Proofs.Ytmfagdbocidfjaa
open Go.RowKit
def put16F (x j : Nat) : Nat := if j = 0 then x / 256 else x % 256
def rowTwo (a b : Nat) (j : Nat) : Nat := if j = 0 then a else b
set_option maxRecDepth 100000 in
/-- append(nil, a, b) -/
theorem wpList_twoB {ops : Array Oper} {rest : List Oper} {o : Oper} {a : Act} {w : World} {Q : Exit → Act → World → Prop} (hgd : o.guard = none) (s x : Operand)
    (ho : o.op = .call { callee := .builtin .append, args := #[s, x], argTypes := #[71, 71] })
    (W : World) (A B : Nat) (hs : a.eval s = .slice none 0 0) (hw : w = W.alloc (.cells #[.int .u8 (A : Nat), .int .u8 (B : Nat)] 5)) (hx : a.eval x = .slice (some ⟨W.heap.size, 0, none⟩) 2 2)
    (h : ∀ u w', SlR w' W.heap.size 2 (rowTwo A B) u → Below W.heap.size W w' → wpList Try.prog ops Q rest (a.put o.dst u) w') :
    wpList Try.prog ops Q (o :: rest) a w := by
  subst hw
  obtain ⟨i0, hi, hz0, hz1, hz2⟩ := info_parts infoI8
  have hB0 : Below W.heap.size W (W.alloc (.cells #[.int .u8 (A : Nat), .int .u8 (B : Nat)] 5)) := below_one W _
  have hsz : (W.alloc (.cells #[.int .u8 (A : Nat), .int .u8 (B : Nat)] 5)).heap.size = W.heap.size + 1 := by show (W.heap.push _).size = _; rw [Array.size_push]
  have hc : ∀ i, (W.alloc (.cells #[.int .u8 (A : Nat), .int .u8 (B : Nat)] 5)).cell? ⟨W.heap.size, i, none⟩ = #[Value.int .u8 (A : Nat), .int .u8 (B : Nat)][i]? := fun i => cell_of_block (last_block0 W (.cells #[.int .u8 (A : Nat), .int .u8 (B : Nat)] 5) _ rfl)
  refine wpList_append_own _ hgd s x 71 ho W.heap.size 5 i0 (.int .u8 0) 1 1 Try.underlying71 hi hz0 hz1 hz2 rfl (by decide) _ 0 [] hs (World.ownsRow_nil _ _ _ _) ⟨W.heap.size, 0, none⟩ 2 2 [.int .u8 (A : Nat), .int .u8 (B : Nat)] hx rfl ?_ ?_ (by unfold maxLen; omega) (by omega) (by omega) ?_
  · intro j u hj
    have h1 : j < 2 := (List.getElem?_eq_some_iff.1 hj).1
    by_cases hz : j = 0
    · subst hz
      rw [add_none, hc]
      exact hj
    · obtain rfl : j = 1 := by omega
      rw [add_none, hc]
      exact hj
  · intro u hu
    simp at hu
    rcases hu with rfl | rfl <;> rfl
  · intro v' w' h1 h2 h3
    rcases h1.2 with ⟨h4, h5⟩ | ⟨g, cap, cur, hv, hb, hg, q1, q2, q3, q4⟩
    · omega
    · subst hv
      refine h _ w' ⟨g, cap, rfl, hb, FRow.own h1 (fun i hi => ?_), q1, q2⟩ (below_grown hB0 (Nat.le_refl _) h2 (fun p hp => by simp [Value.ownBlock] at hp))
      by_cases hz : i = 0
      · subst hz; rfl
      · obtain rfl : i = 1 := by omega
        rfl
/-- a row that comes back -/
def SlPost (W : World) (n : Nat) (f : Nat → Nat) (e : Ending) (W' : World) : Prop := ∃ u, e = .returned u ∧ SlR W' W.heap.size n f u ∧ Below W.heap.size W W'
set_option maxRecDepth 100000 in
set_option maxHeartbeats 1000000 in
theorem w_put16 (x : Nat) (w : World) (hx : x < 65536) :
    Calls Try.prog 51 #[.slice none 0 0, .int .u16 (x : Nat)] w (SlPost w 2 (put16F x)) := by
  go_enter Try.func51, Try.ntmps51
  go_wp2_with (at_builtin; refine wpList_twoB rfl (.tmp 10) (.tmp 16) rfl w (x / 256) (x % 256) rfl (by simp) rfl ?_; intro u w' hu hb)
  go_ret
  exact ⟨u, rfl, hu.congr (fun i hi => rfl), hb⟩
/-- the document's two bytes, as far as they are written -/
def bytF (x k j : Nat) : Nat := if 2 ≤ j + k then put16F x j else 0
set_option maxRecDepth 100000 in
theorem byt_next (x k j : Nat) (hk : k < 2) (hj : j < 2) : (if j = 1 - k then x / 256 ^ k % 256 else bytF x k j) = bytF x (k + 1) j ∨ 65536 ≤ x := by
  by_cases hx : x < 65536
  · left
    have hk2 : k = 0 ∨ k = 1 := by omega
    have hj2 : j = 0 ∨ j = 1 := by omega
    rcases hk2 with rfl | rfl <;> rcases hj2 with rfl | rfl <;> simp [bytF, put16F]
    omega
  · right; omega
end Go.Proofs.Ytmfagdbocidfjaa

/- rs.first, rs.length and the document's first and length. Conditions: what the slices read as. -/
namespace Go.Proofs.Ytmfagdbocidfjaa
open Go.RowKit
/-- numbers from 0 on -/
def FstPost (W : World) (n : Nat) (e : Ending) (W' : World) : Prop := ∃ g k, e = .returned (.slice g n k) ∧ ZAt W' .i64 g n (fun i => (i : Nat)) ∧ n ≤ k ∧ k ≤ maxLen ∧ (g = none → n = 0) ∧ Below W.heap.size W W'
set_option maxRecDepth 100000 in
set_option maxHeartbeats 1000000 in
theorem s_first (n : Nat) (w : World) (hn : n ≤ 255) :
    Calls Try.prog 99 #[.int .i64 (n : Nat)] w (FstPost w n) := by
  have hmk : ∀ y : World, (Instr.makeSlice 55 (.int .i64 (n : Int)) (.int .i64 (n : Int))).run Try.prog y = .ok (.slice (some ⟨y.heap.size, 0, none⟩) n n) (y.alloc (.cells (madeCells #[.int .i64 0] n) 3)) := fun y => make_row (P := Try.prog) Try.underlying55 infoInt n (by omega) (by decide) y
  go_enter Try.func99, Try.ntmps99
  go_upto_region 2 with (fail)
  have hst := Lib.hid (frow_made w 3 .i64 n)
  have hB := Lib.hid (below_one w (.cells (madeCells #[.int .i64 0] n) 3))
  obtain ⟨g, hg⟩ : ∃ g, w.heap.size = g := ⟨_, rfl⟩
  rw [hg] at hst ⊢
  have hgw : w.heap.size ≤ g := by omega
  clear hmk hg
  generalize World.alloc w _ = W at *
  go_upto_region 3 with (fail)
  go_loopw [9] (fun v9 wr => ∃ k : Nat, k ≤ n ∧ v9 = .int .i64 (k : Nat) ∧ Hid (FRow wr g 3 .i64 n (fun j => if j < k then (j : Nat) else 0)) ∧ Hid (Below w.heap.size w wr)) (fun v9 _ => n - (intOf v9).toNat)
  case atStart => exact ⟨0, by omega, rfl, hide (hst.out.congr (fun j hj => by simp)), hB⟩
  case round =>
    obtain ⟨k, hk, rfl, hr, hb⟩ := hrel
    by_cases hkn : k < n
    · have i1 : (k : Int) < (n : Int) := by omega
      have c := FRow.cell hr.out k hkn
      have f := FRow.fr hr.out k
      go_wp2_with fail
      go_roundw
      case rel => exact ⟨k + 1, by omega, by go_num, hide ((FRow.set hr.out k (k : Nat)).congr (fun j hj => by
        by_cases h : j = k
        · rw [if_pos h, if_pos (by omega), h]
        · rw [if_neg h]
          by_cases h2 : j < k
          · rw [if_pos h2, if_pos (by omega)]
          · rw [if_neg h2, if_neg (by omega)])), hide (hb.out.setCell hgw _)⟩
      case measure => simp [intOf]; omega
    · obtain rfl : k = n := by omega
      have i1 : decide ((k : Int) < (k : Int)) = false := by simp
      go_wp2_with fail
      go_ret
      exact ⟨_, _, rfl, fun i hi => ⟨g, 0, rfl, by rw [Nat.zero_add, FRow.cell hr.out i hi, if_pos hi]⟩, Nat.le_refl _, by unfold maxLen; omega, (fun e => by cases e), hb.out⟩
set_option maxRecDepth 100000 in
set_option maxHeartbeats 1000000 in
theorem s_length (n k : Nat) (s : Option Addr) (cap : Nat) (w : World) (hs : LensAt w s k (fun _ => n)) (h0 : 0 < k) (hk : k ≤ 255) (hn : n ≤ 1200) :
    Calls Try.prog 102 #[.slice s k cap] w fun e w' => e = .returned (.tuple #[.int .i64 (n : Nat), .int .i64 0]) ∧ w = w' := by
  have hsh := Lib.hid hs
  obtain ⟨b, off, a0, k0, rfl, c0⟩ := hs 0 h0
  have c0 : w.cell? ⟨b, off, none⟩ = some (.slice a0 n k0) := c0
  have d0 : decide ((1200 : Int) < (n : Int)) = false := decide_eq_false (by omega)
  have d1 : decide (1200 < n) = false := decide_eq_false (by omega)
  have d2 := bne_cast_f n
  clear hs
  go_enter Try.func102, Try.ntmps102
  go_upto_region 5 with (fail)
  clear c0
  go_loop [15] (fun v15 => ∃ i : Nat, i ≤ k ∧ v15 = .int .i64 (i : Nat)) (fun v15 => k - (intOf v15).toNat)
  case atStart => exact ⟨0, by omega, rfl⟩
  case round =>
    obtain ⟨i, hi, rfl⟩ := hrel
    by_cases hik : i < k
    · have i1 : (i : Int) < (k : Int) := by omega
      obtain ⟨b2, off2, a1, k1, he, c1⟩ := hsh.out i hik
      injection he with he
      injection he with e1 e2
      subst e1 e2
      go_wp2_with fail
      go_round
      case rel => exact ⟨i + 1, by omega, by go_num⟩
      case measure => simp [intOf]; omega
    · obtain rfl : i = k := by omega
      have i1 : decide ((i : Int) < (i : Int)) = false := by simp
      go_wp2_with fail
      go_ret2
      exact ⟨rfl, rfl⟩
set_option maxRecDepth 100000 in
theorem RowsAt.lens {w : World} {s : Option Addr} {m n : Nat} {V : Nat → Nat → Nat} (h : RowsAt w s m n V) : LensAt w s m (fun _ => n) := fun i hi => by
  obtain ⟨b, off, a, k, h1, h2, _⟩ := h i hi
  exact ⟨b, off, a, k, h1, h2⟩
end Go.Proofs.Ytmfagdbocidfjaa

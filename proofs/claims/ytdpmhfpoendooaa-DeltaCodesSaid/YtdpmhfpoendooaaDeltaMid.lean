/- A writer and a row of bits that grow side by side; Len, Gamma of zero, Same; a slice of pieces. -/
import Derived.Test.YtdpmhfpoendooaaDeltaRef2
import Derived.Test.YtdpmhfpoendooaaRec
namespace Go.Proofs.Ytdpmhfpoendooaa
open Go.RowKit
/-- a writer at p and a row of one's own, in blocks of their own -/
structure Mid (w : World) (p : Nat) (s : Option Addr) (c n : Nat) (β : Nat → Nat) (v : Value) (k : Nat) (γ : Nat → Nat) : Prop where
  wr : WrAt w p s c n β
  row : OwnB w (p + 1) v k γ
  ne : ∀ b, Value.ownBlock (.slice s ((n + 7) / 8) c) = some b → v.ownBlock ≠ some b
theorem OwnB.same {w w' : World} {base n : Nat} {v : Value} {f : Nat → Nat} (h : OwnB w base v n f) (e : ∀ b, v.ownBlock = some b → w'.heap[b]? = w.heap[b]?) : OwnB w' base v n f := by
  refine ⟨h.1, ?_⟩
  rcases h.2 with h1 | ⟨g, cap, cur, hv, h2, hg, h3⟩
  · exact .inl h1
  · exact .inr ⟨g, cap, cur, hv, h2, (e g (by subst hv; rfl)).trans hg, h3⟩
theorem Mid.put {w w' : World} {p c n k n' : Nat} {s : Option Addr} {β γ β' : Nat → Nat} {v : Value} {e : Ending} (h : Mid w p s c n β v k γ) (hp : PutPost w p s c n n' β' e w') :
    e = .returned (.tuple #[]) ∧ ∃ s' c', Mid w' p s' c' n' β' v k γ ∧ (∀ B w0, Below B w0 w → B ≤ p → Below B w0 w') := by
  obtain ⟨he, s', c', h1, h2, h3⟩ := hp
  refine ⟨he, s', c', ⟨h1, h.row.same (fun b hb => ?_), fun b hb hb2 => ?_⟩, fun B w0 hB hp => ?_⟩
  · have hl := h.row.lt b hb
    exact h2.blk b hl.2 (by omega) (fun e => h.ne b e hb)
  · rcases h3 b hb with h4 | h4
    · exact h.ne b h4 hb2
    · have := (h.row.lt b hb2).2; omega
  · exact h2.to_below hB (by have := blk_lt (blk_of h.wr.1); omega) hp (fun b hb => by have := (h.wr.2.lt b hb).1; omega)
theorem WrAt.below {w w' : World} {p c n : Nat} {s : Option Addr} {β : Nat → Nat} (h : WrAt w p s c n β) (hb : Below w.heap.size w w') : WrAt w' p s c n β :=
  ⟨(hb.block p (blk_lt (blk_of h.1))).trans h.1, h.2.below hb⟩
theorem Mid.below {w w' : World} {p c n k : Nat} {s : Option Addr} {β γ : Nat → Nat} {v : Value} (h : Mid w p s c n β v k γ) (hb : Below w.heap.size w w') : Mid w' p s c n β v k γ :=
  ⟨h.wr.below hb, h.row.below hb, h.ne⟩
theorem Mid.cat {w w' : World} {p c n k k' : Nat} {s : Option Addr} {β γ γ' : Nat → Nat} {v v' : Value} (h : Mid w p s c n β v k γ) (ho : OwnB w' (p + 1) v' k' γ') (hg : w.grownBy w' v.ownBlock)
    (hb : ∀ b, v'.ownBlock = some b → v.ownBlock = some b ∨ w.heap.size ≤ b) : Mid w' p s c n β v' k' γ' := by
  have hp := blk_lt (blk_of h.wr.1)
  refine ⟨⟨(hg.block p hp (fun e => by have := (h.row.lt p e.symm).1; omega)).trans h.wr.1, h.wr.2.same fun b hb2 => hg.block b (h.wr.2.lt b hb2).2 (fun e => h.ne b hb2 e.symm)⟩, ho, fun b hb2 hb3 => ?_⟩
  rcases hb b hb3 with h4 | h4
  · exact h.ne b hb2 h4
  · have := (h.wr.2.lt b hb2).2; omega
theorem Mid.cat_below {w w' w0 : World} {p c n k B : Nat} {s : Option Addr} {β γ : Nat → Nat} {v : Value} (h : Mid w p s c n β v k γ) (hg : w.grownBy w' v.ownBlock) (hB : Below B w0 w) (hp : B ≤ p) : Below B w0 w' :=
  ⟨hg.os.trans hB.os, hg.tape.trans hB.tape, hg.output.trans hB.output, Nat.le_trans hB.size hg.size, fun i hi => (hg.block i (by have := hB.size; have := blk_lt (blk_of h.wr.1); omega) (fun e => by have := (h.row.lt i e.symm).1; omega)).trans (hB.block i hi)⟩
theorem Mid.open {w : World} {p c n k : Nat} {s : Option Addr} {β γ : Nat → Nat} {v : Value} (h : Mid w p s c n β v k γ) : ∃ t d, v = .slice t k d ∧ Pv w t k d γ := by
  obtain ⟨t, d, h1, h2⟩ := h.row.pv
  exact ⟨t, d, h1, h2⟩
theorem Mid.congr {w : World} {p c n k k' : Nat} {s : Option Addr} {β γ γ' : Nat → Nat} {v : Value} (h : Mid w p s c n β v k γ) (hk : k = k') (e : ∀ j, j < k → γ j = γ' j) : Mid w p s c n β v k' γ' := by
  subst hk; exact ⟨h.wr, h.row.congr e, h.ne⟩
theorem cat_ct (n m : Nat) (β γ : Nat → Nat) (j : Nat) (hj : j < n + m) : catF n β γ j = ctF β n γ m j := by
  unfold catF ctF
  by_cases e : j < n
  · rw [if_pos e, if_pos e]
  · rw [if_neg e, if_neg e, if_pos hj]
theorem ct_none (β γ : Nat → Nat) (n : Nat) (h : Zb n β) : ctF β n γ 0 = β := funext fun j => by
  unfold ctF
  by_cases e : j < n
  · rw [if_pos e]
  · rw [if_neg e, if_neg (by omega), h j (by omega)]
theorem gmN_0 : gmN 0 = 0 := by unfold gmN nbF; simp
/-- the pieces -/
def PcAt (w : World) (a : Option Addr) (len : Nat) (V : Nat → Nat) (K : Nat → Int) (G : Nat → Bool) : Prop := ∀ i, i < len → ∃ b off, a = some ⟨b, off, none⟩ ∧
  w.cell? ⟨b, off + i * 3, none⟩ = some (.int .u64 (V i : Nat)) ∧ w.cell? ⟨b, off + i * 3 + 1, none⟩ = some (.int .i64 (K i)) ∧ w.cell? ⟨b, off + i * 3 + 2, none⟩ = some (.bool (G i))
theorem PcAt.below {w w' : World} {a : Option Addr} {len : Nat} {V : Nat → Nat} {K : Nat → Int} {G : Nat → Bool} (h : PcAt w a len V K G) (hb : Below w.heap.size w w') : PcAt w' a len V K G := by
  intro i hi
  obtain ⟨b, off, ha, c0, c1, c2⟩ := h i hi
  have hl := cell_block_lt c0
  exact ⟨b, off, ha, (hb.cell (p := ⟨b, off + i * 3, none⟩) hl).trans c0, (hb.cell (p := ⟨b, off + i * 3 + 1, none⟩) hl).trans c1, (hb.cell (p := ⟨b, off + i * 3 + 2, none⟩) hl).trans c2⟩
theorem pc_open {w : World} {a : Option Addr} {len cap : Nat} (h : IsRec [some .u64, some .i64, none] w a len cap) : ∃ V K G, PcAt w a len V K G ∧ (∀ k, V k < 18446744073709551616) := by
  obtain ⟨f, hk, hc, _⟩ := h
  have key : ∀ i, ∃ o : Nat × Int × Bool, o.1 < 18446744073709551616 ∧ (i < len → f i 0 = .int .u64 (o.1 : Nat) ∧ f i 1 = .int .i64 o.2.1 ∧ f i 2 = .bool o.2.2) := by
    intro i
    by_cases hi : i < len
    · obtain ⟨t, h0, w0⟩ := (hk i 0 (some .u64) hi rfl).int
      obtain ⟨l, h1, _⟩ := (hk i 1 (some .i64) hi rfl).int
      obtain ⟨g, h2⟩ := (hk i 2 none hi rfl).bool
      obtain ⟨t', rfl, ht⟩ := u64_nat w0
      exact ⟨⟨t', l, g⟩, ht, fun _ => ⟨h0, h1, h2⟩⟩
    · exact ⟨⟨0, 0, false⟩, (by decide : 0 < 18446744073709551616), fun h => absurd h hi⟩
  refine ⟨fun i => (key i).choose.1, fun i => (key i).choose.2.1, fun i => (key i).choose.2.2, fun i hi => ?_, fun i => (key i).choose_spec.1⟩
  obtain ⟨h0, h1, h2⟩ := (key i).choose_spec.2 hi
  obtain ⟨b, off, ha, hcell⟩ := hc i hi
  refine ⟨b, off, ha, ?_, ?_, ?_⟩
  · rw [← h0]; exact hcell 0 (by decide)
  · rw [← h1]; exact hcell 1 (by decide)
  · rw [← h2]; exact hcell 2 (by decide)
attribute [local irreducible] OwnB byF apF bitF putF ctF bsF gmF gmN nbF chF chN enN enB dlF lastF pxF
theorem d_len (p : Nat) (s : Option Addr) (c n : Nat) (β : Nat → Nat) (w : World) (hw : WrAt w p s c n β) :
    Calls Try.prog 14 #[.pointer (some ⟨p, 0, none⟩)] w (fun e w' => e = .returned (.int .i64 (n : Nat)) ∧ w = w') := by
  have c1 : w.cell? ⟨p, 1, none⟩ = some (.int .i64 (n : Nat)) := (cell_of_block hw.1).trans rfl
  clear hw
  go_enter Try.func14, Try.ntmps14
  go_wp2_with fail
  go_ret
  exact ⟨rfl, rfl⟩
theorem d_gamma0 (p : Nat) (s : Option Addr) (c n : Nat) (β : Nat → Nat) (w : World) (hw : WrAt w p s c n β) :
    Calls Try.prog 10 #[.pointer (some ⟨p, 0, none⟩), .int .u64 0] w (PutPost w p s c n n β) := by
  have hwh := Lib.hid hw
  clear hw
  go_enter Try.func10, Try.ntmps10
  go_wp2_with fail
  go_end0
  exact ⟨rfl, s, c, hwh.out, Kp.refl _ _ _, fun b hb => .inl hb⟩
theorem d_gamma_all (p : Nat) (s : Option Addr) (c n v : Nat) (β : Nat → Nat) (w : World) (hw : WrAt w p s c n β) (hz : Zb n β) (hb : Bit β) (hv : v < 18446744073709551616) (hn : n ≤ 1000000) :
    Calls Try.prog 10 #[.pointer (some ⟨p, 0, none⟩), .int .u64 (v : Nat)] w (PutPost w p s c n (n + gmN v) (ctF β n (gmF v) (gmN v))) := by
  by_cases h0 : v = 0
  · subst h0
    rw [gmN_0, ct_none _ _ _ hz]
    exact d_gamma0 p s c n β w hw
  · exact d_gamma p s c n v β w hw hz hb hv h0 hn
set_option maxHeartbeats 1000000 in
theorem r_same8 (s t : Option Addr) (cs ct n : Nat) (f : Nat → Nat) (w : World) (hs : By w s n f) (ht : By w t n f) (hn : n ≤ 9223372036854775807) :
    Calls Try.prog 15 #[.slice s n cs, .slice t n ct] w (fun e w' => e = .returned (.bool true) ∧ ∃ m, w' = w.drewN m) := by
  have hsh := Lib.hid hs
  have hth := Lib.hid ht
  clear hs ht
  go_enter Try.func15, Try.ntmps15
  go_wp2_with fail
  go_loopw [5] (fun i wr => ∃ k m : Nat, k ≤ n ∧ i = .int .i64 k ∧ wr = w.drewN m) (fun i _ => n - (intOf i).toNat)
  case atStart => exact ⟨0, 0, by omega, rfl, rfl⟩
  case round =>
    obtain ⟨k, m, hk, rfl, rfl⟩ := hrel
    by_cases hlt : k < n
    · obtain ⟨b1, o1, h1, hc1⟩ := hsh.out k hlt
      obtain ⟨b2, o2, h2, hc2⟩ := hth.out k hlt
      subst h1 h2
      have i1 : (k : Int) < (n : Int) := by omega
      generalize f k = x at *
      go_wp2_with fail
      go_quiet (fail)
      go_wp2_with fail
      go_roundw
      case rel => exact ⟨k + 1, _, by omega, by go_num, rfl⟩
      case measure => simp [intOf]; omega
    · obtain rfl : k = n := by omega
      go_wp2_with fail
      go_ret
      exact ⟨rfl, m, rfl⟩
end Go.Proofs.Ytdpmhfpoendooaa

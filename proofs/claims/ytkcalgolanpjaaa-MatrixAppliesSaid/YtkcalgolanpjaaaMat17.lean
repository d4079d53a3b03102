/- The contracts of package matrix's Row, of Same over bytes, of Powers where it refuses. -/
import Derived.Test.YtkcalgolanpjaaaMat16
namespace Go.Proofs.Ytkcalgolanpjaaa
open Go.RowKit
/-- append([]byte{}, x...) where x came up after the empty row -/
theorem wpList_appB2 {ops : Array Oper} {rest : List Oper} {o : Oper} {a : Act} {w : World} {Q : Exit → Act → World → Prop} (hgd : o.guard = none) (s x : Operand)
    (ho : o.op = .call { callee := .builtin .append, args := #[s, x], argTypes := #[22, 22] })
    (W : World) (hs : a.eval s = .slice (some ⟨W.heap.size, 0, none⟩) 0 0) (hw : Below (W.alloc (.cells #[] 5)).heap.size (W.alloc (.cells #[] 5)) w)
    (A : Option Addr) (c n : Nat) (f : Nat → Nat) (hx : a.eval x = .slice A n c) (hsl : By w A n f) (hnone : A = none → n = 0 ∧ c = 0) (hn : n ≤ 100000000)
    (h : ∀ g cap w', W.heap.size ≤ g → n ≤ cap → cap ≤ maxLen → BRow w' g n f → Below W.heap.size W w' → wpList Try.prog ops Q rest (a.put o.dst (.slice (some ⟨g, 0, none⟩) n cap)) w') :
    wpList Try.prog ops Q (o :: rest) a w := by
  obtain ⟨i0, hi, hz0, hz1, hz2⟩ := info_parts info8
  have hown0 := World.ownsRow_lit (base := W.heap.size) (e := 5) (size := 1) W #[] 0 (Nat.le_refl _) (by unfold maxLen; omega) rfl
  have hB0 : Below W.heap.size W (W.alloc (.cells #[] 5)) := (Below.refl _ _).alloc (Nat.le_refl _) _
  have hlz0 : W.heap.size < (W.alloc (.cells #[] 5)).heap.size := by show _ < (W.heap.push _).size; rw [Array.size_push]; omega
  have hown : w.ownsRow W.heap.size 5 1 (.slice (some ⟨W.heap.size, 0, none⟩) 0 0) 0 [] := OwnZ.below (k := .u8) (f := fun _ => 0) (n := 0) hown0 hw
  have hb1 : w.heap[W.heap.size]? = some (.cells #[] 5 (0, 0)) := (hw.block _ hlz0).trans (last_block0 W _ _ rfl)
  have hlz : W.heap.size < w.heap.size := Nat.lt_of_lt_of_le hlz0 hw.size
  have hB1 : Below W.heap.size W w := hB0.trans (hw.mono (Nat.le_of_lt hlz0))
  cases A with
  | none =>
    obtain ⟨rfl, rfl⟩ := hnone rfl
    refine wpList_append_own_none hgd s x 22 ho W.heap.size 5 i0 1 Try.underlying22 hi _ 0 _ hs hown hx ?_
    exact h W.heap.size 0 _ (Nat.le_refl _) (Nat.le_refl _) (by unfold maxLen; omega) ⟨_, hb1, by simp, fun i hi => absurd hi (by omega)⟩ hB1
  | some ad =>
    refine wpList_append_own _ hgd s x 22 ho W.heap.size 5 i0 (.int .u8 0) 1 1 Try.underlying22 hi hz0 hz1 hz2 rfl (by decide) _ 0 _ hs hown ad n c (rowB ((List.range n).map f)) hx (by rw [rowB_length]; simp) ?_ ?_ (by unfold maxLen; omega) (by omega) (Nat.le_of_lt hlz) ?_
    · intro j u hj
      rw [rowB_get] at hj
      obtain ⟨y, hy, hyu⟩ := Option.map_eq_some_iff.1 hj
      obtain ⟨b, off, he, hc⟩ := hsl.sl j y hy
      injection he with he
      subst he hyu
      by_cases hz : j = 0
      · subst hz; simpa [Addr.add] using hc
      · simpa [Addr.add, hz] using hc
    · intro u hu
      unfold rowB at hu
      obtain ⟨y, _, rfl⟩ := List.mem_map.1 hu
      rfl
    · intro v' w' h1 h2 h3
      have hne : v' ≠ .slice none 0 0 := fun e => by have := (h3.1 e).1; simp at this
      obtain ⟨g, cap, rfl, hg1, hg2⟩ := own_open h1 hne
      have e0 : 0 + n = n := Nat.zero_add _
      rw [e0] at h1 ⊢
      obtain ⟨q1, q2, q3⟩ := own_cap h1
      refine h g cap w' hg1 q1 q2 (FRow.own h1 fun i hi => ?_) (below_of_only hB1 h2 (Nat.le_of_lt hlz) (Nat.le_refl _))
      show (rowB ((List.range n).map f))[i]? = _
      rw [rowB_get]
      simp [hi]
theorem r_sameB (s t : Option Addr) (cs ct n : Nat) (f : Nat → Nat) (w : World) (hs : By w s n f) (ht : By w t n f) (hn : n ≤ 9223372036854775807) :
    Calls Try.prog 23 #[.slice s n cs, .slice t n ct] w (Ret w (.bool true)) := by
  have hsh := Lib.hid hs
  have hth := Lib.hid ht
  clear hs ht
  go_enter Try.func23, Try.ntmps23
  go_wp2_with fail
  go_loopw [5] (fun i wr => ∃ k m : Nat, k ≤ n ∧ i = .int .i64 k ∧ wr = w.drewN m) (fun i _ => n - (intOf i).toNat)
  case atStart => exact ⟨0, 0, by omega, rfl, rfl⟩
  case round =>
    obtain ⟨k, m, hk, rfl, rfl⟩ := hrel
    by_cases hlt : k < n
    · obtain ⟨b1, o1, h1, hc1⟩ := hsh.out k hlt
      obtain ⟨b2, o2, h2, hc2⟩ := hth.out k hlt
      subst h1 h2
      have i1 : (k : Int) < (n : Int) := by omega
      generalize f k = x at *
      go_wp2_with fail
      go_quiet (fail)
      go_wp2_with fail
      go_roundw
      case rel => exact ⟨k + 1, _, by omega, by go_num, rfl⟩
      case measure => simp [intOf]; omega
    · obtain rfl : k = n := by omega
      go_wp2_with fail
      go_ret
      exact ⟨rfl, below_drewN (Below.refl _ _) m⟩
def RcPost (W : World) (C : Nat) (f : Nat → Nat) (e : Ending) (W' : World) : Prop := ∃ g cap, e = .returned (.slice (some ⟨g, 0, none⟩) C cap) ∧ C ≤ cap ∧ cap ≤ maxLen ∧ BRow W' g C f ∧ Below W.heap.size W W'
theorem rowA_none {a : Option Addr} {R C i cap : Nat} (h : a = none → R * C = 0 ∧ cap = 0) (hi : i < R) (e : rowA a C i = none) : C = 0 ∧ C = 0 := by
  have : C = 0 := by
    by_cases h0 : C = 0
    · exact h0
    · cases a with
      | none => exact (Nat.mul_eq_zero.1 (h rfl).1).resolve_left (by omega)
      | some x => unfold rowA at e; rw [if_neg h0] at e; cases e
  exact ⟨this, this⟩
attribute [local irreducible] gexp gtbl glog rmul rinv rpow zexp mixF blk wLoad wLoadRes loadAns wStore wStoreRes storeAns Plain flF BRow MRow MAt By IsGf
attribute [local go_sem ↓] ld_m0 ld_x0 sto_m0 sto_x0
attribute [local go_sem] ld_m ld_x sto_m sto_x loadAns_some storeAns_some mx_size mx_plain blk_alloc_if blk_setRow_if blk_drew_at blk_drewN_at rowPut_some blk_setCell_if cellPut_some
set_option maxHeartbeats 2000000 in
theorem m_rowcopy (R C i : Nat) (a : Option Addr) (cap : Nat) (F : Nat → Nat → Nat) (w : World) (ha : MAt w a R C F) (hnil : a = none → R * C = 0 ∧ cap = 0) (hi : i < R) (hR : R ≤ 255) (hC : C ≤ 255) (hc : R * C ≤ cap) :
    Calls Try.prog 22 #[.agg #[.int .i64 (R : Nat), .int .i64 (C : Nat), .slice a (R * C) cap], .int .i64 (i : Nat)] w (RcPost w C (F i)) := by
  have hB := below_one w (.cells #[.int .i64 (R : Nat), .int .i64 (C : Nat), .slice a (R * C) cap] 24)
  have h0 := last_block0 w (.cells #[.int .i64 (R : Nat), .int .i64 (C : Nat), .slice a (R * C) cap] 24) _ rfl
  have hsz : w.heap.size < (w.alloc (.cells #[.int .i64 (R : Nat), .int .i64 (C : Nat), .slice a (R * C) cap] 24)).heap.size := by show _ < (w.heap.push _).size; rw [Array.size_push]; omega
  have hsome := Lib.hid (MAt.some ha (by omega))
  have hrow := Lib.hid (MAt.row ha i hi)
  have hrn := Lib.hid (rowA_none (C := C) hnil hi)
  have krt := Lib.hid (fun y => right_nat R C hR hC ▸ m_right R C a (R * C) cap y)
  clear ha hnil
  go_enter Try.func22, Try.ntmps22
  go_upto_region 1 with (fail)
  generalize World.alloc w _ = W at *
  have h0h := Lib.hid (blk_of h0)
  have hBh := Lib.hid hB
  clear h0 hB
  have b0 := h0h.out
  go_wp2_with fail
  refine (krt.out W).mono ?_
  rintro e w1 ⟨rfl, hb1⟩
  have hb1h := Lib.hid hb1
  have b1 := (blk_below hb1 hsz).trans h0h.out
  have c0 : w1.cell? ⟨w.heap.size, 0, none⟩ = some (.int .i64 (R : Nat)) := (cell_of_block (blk_heap b1)).trans rfl
  have i0 : decide ((i : Int) < 0) = false := by simp
  have i1 : decide ((R : Int) ≤ (i : Int)) = false := by simp; omega
  have i2 : decide (R ≤ i) = false := by simp; omega
  have hl1 : w.heap.size < w1.heap.size := Nat.lt_of_lt_of_le hsz hb1.size
  have hne : ¬ w.heap.size = w1.heap.size := by omega
  clear hb1 b0
  go_wp2_with fail
  refine (m_row R C i a cap _ hsome.out hi hR hC hc).mono ?_
  rintro e w2 ⟨rfl, hb2⟩
  have hb2h := Lib.hid hb2
  have hW2 : Hid (Below w1.heap.size w1 w2) := hide (((Below.refl w1.heap.size w1).alloc (Nat.le_refl _) _).trans (hb2.mono (by show _ ≤ (w1.heap.push _).size; rw [Array.size_push]; omega)))
  have hrow2 := Lib.hid (((hrow.out.below hBh.out).below hb1h.out).below hW2.out)
  have hf := Lib.hid (show ∀ g cp w', w1.heap.size ≤ g → C ≤ cp → cp ≤ maxLen → BRow w' g C (F i) → Below w1.heap.size w1 w' → RcPost w C (F i) (.returned (.slice (some ⟨g, 0, none⟩) C cp)) w' from fun g cp w' _ h2 h3 h4 h5 => ⟨g, cp, rfl, h2, h3, h4, hBh.out.trans ((hb1h.out.trans (h5.mono hb1h.out.size)).mono hBh.out.size)⟩)
  clear hb2 b1 c0
  go_wp2_with (at_builtin; refine wpList_appB2 rfl (.tmp 18) (.tmp 21) rfl w1 rfl hb2h.out (rowA a C i) C C (F i) rfl hrow2.out hrn.out (by omega) ?_; intro g c2 w4 q1 q2 q3 q4 q5; have hq := Lib.hid (hf.out g c2 w4 q1 q2 q3 q4 q5); clear q1 q2 q3 q4 q5)
  go_ret
  exact hq.out
set_option maxHeartbeats 2000000 in
theorem m_rowcopy_no (r c i : Int) (a : Option Addr) (len cap : Nat) (w : World) (h : rightB r c len = false ∨ i < 0 ∨ r ≤ i) :
    Calls Try.prog 22 #[.agg #[.int .i64 r, .int .i64 c, .slice a len cap], .int .i64 i] w (Ret w (.slice none 0 0)) := by
  have hB := below_one w (.cells #[.int .i64 r, .int .i64 c, .slice a len cap] 24)
  have h0 := last_block0 w (.cells #[.int .i64 r, .int .i64 c, .slice a len cap] 24) _ rfl
  have hsz : w.heap.size < (w.alloc (.cells #[.int .i64 r, .int .i64 c, .slice a len cap] 24)).heap.size := by show _ < (w.heap.push _).size; rw [Array.size_push]; omega
  have kr := Lib.hid (fun W => m_right r c a len cap W)
  obtain ⟨b, hb⟩ : ∃ b, rightB r c len = b := ⟨_, rfl⟩
  rw [hb] at h kr
  clear hb
  go_enter Try.func22, Try.ntmps22
  go_upto_region 1 with (fail)
  generalize World.alloc w _ = W at *
  have h0h := Lib.hid (blk_of h0)
  have hBh := Lib.hid hB
  clear h0 hB
  have b0 := h0h.out
  go_wp2_with fail
  refine (kr.out W).mono ?_
  rintro e w1 ⟨rfl, hb1⟩
  have hfin := Lib.hid (hBh.out.trans (hb1.mono hBh.out.size))
  have b1 := (blk_below hb1 hsz).trans h0h.out
  have c0 : w1.cell? ⟨w.heap.size, 0, none⟩ = some (.int .i64 r) := (cell_of_block (blk_heap b1)).trans rfl
  clear hb1 b0
  cases b with
  | false =>
    go_wp2_with fail
    go_ret
    exact ⟨rfl, hfin.out⟩
  | true =>
    by_cases hi : i < 0
    · have i0 : decide (i < 0) = true := decide_eq_true hi
      clear h
      go_wp2_with fail
      go_ret
      exact ⟨rfl, hfin.out⟩
    · have i0 : decide (i < 0) = false := decide_eq_false hi
      have i1 : decide (r ≤ i) = true := decide_eq_true (by rcases h with h | h | h; cases h; omega; exact h)
      clear h
      go_wp2_with fail
      go_ret
      exact ⟨rfl, hfin.out⟩
set_option maxHeartbeats 2000000 in
theorem m_powers_no (p : Value) (r c : Int) (w : World) (hn : r < 0 ∨ c < 0 ∨ 255 < r ∨ 255 < c) :
    Calls Try.prog 25 #[p, .int .i64 r, .int .i64 c] w (NoMPost w 50) := by
  have hz := zeroM
  have kn := Lib.hid (fun W => m_new_no r c W hn)
  have hB := below_one w (.cells #[.int .i64 0, .int .i64 0, .slice none 0 0] 24)
  have h0 := last_block0 w (.cells #[.int .i64 0, .int .i64 0, .slice none 0 0] 24) _ rfl
  have hsz : w.heap.size < (w.alloc (.cells #[.int .i64 0, .int .i64 0, .slice none 0 0] 24)).heap.size := by show _ < (w.heap.push _).size; rw [Array.size_push]; omega
  clear hn
  go_enter Try.func25, Try.ntmps25
  go_upto_region 1 with (fail)
  generalize World.alloc w _ = W at *
  have h0h := Lib.hid h0
  have hBh := Lib.hid hB
  clear h0 hB
  go_wp2_with fail
  refine (kn.out W).mono ?_
  rintro e w2 ⟨rfl, hb2⟩
  have hb2h := Lib.hid hb2
  have hWl := hb2.size
  clear hb2
  go_upto_region 2 with (fail)
  obtain ⟨x0, x1, x2⟩ := boxed w2 #[.int .i64 0, .int .i64 0, .slice none 0 0] #[.int .i64 0, .int .i64 0, .slice none 0 0] 24
  generalize World.setRow (World.alloc w2 _) _ _ = X at *
  have hr0 : X.heap[w.heap.size]? = _ := (x2.block w.heap.size (by omega)).trans ((hb2h.out.block w.heap.size hsz).trans h0h.out)
  have hr0b := blk_of hr0
  have b0 := blk_of x0
  have hB9 : Below w.heap.size w X := hBh.out.trans ((hb2h.out.mono hBh.out.size).trans (x2.mono (by omega)))
  have hB9h := Lib.hid hB9
  have hr0h := Lib.hid hr0
  have hx1 : w2.heap.size < X.heap.size := by omega
  clear hr0 hB9 x0 x1 x2
  go_wp2_with fail
  refine bodyPost_ret (v := .tuple #[.agg #[.int .i64 0, .int .i64 0, .slice none 0 0], .int .i64 50]) (results_row_tmp rfl _ _ w.heap.size 24 _ (0, 0) _ _ rfl rfl (setRow_heap _ _ _ _ _ _ hr0h.out) Try.underlying24 rfl mx_info) rfl ?hpost
  case hpost => exact ⟨rfl, below_setRow hB9h.out (Nat.le_refl _) _⟩
end Go.Proofs.Ytkcalgolanpjaaa

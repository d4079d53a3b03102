import Derived.Test.YtmfagdbocidfjaaV03
import Derived.Laws.OwnMore
import Derived.Laws.MakeOwn
import Derived.Laws.AppendOwnNone
/- The contracts of package gf's Scale, Mix, Dot, of the document's Dot, and of Same: over slices of bytes. Conditions: the slices read as the lists named, of bytes, not longer than 2000. -/
namespace Go.Proofs.Ytmfagdbocidfjaa
open Go.RowKit
/-- bytes as cells -/
def rowB (l : List Nat) : List Value := l.map fun x => .int .u8 (x : Nat)
set_option maxRecDepth 100000 in
theorem rowB_length (l : List Nat) : (rowB l).length = l.length := by simp [rowB]
set_option maxRecDepth 100000 in
theorem rowB_get (l : List Nat) (i : Nat) : (rowB l)[i]? = (l[i]?).map fun x => Value.int .u8 (x : Nat) := by simp [rowB]
set_option maxRecDepth 100000 in
theorem rowB_set (l : List Nat) (i x : Nat) : (rowB l).set i (.int .u8 (x : Nat)) = rowB (l.set i x) := by simp [rowB, List.map_set]
set_option maxRecDepth 100000 in
theorem own_sl {w : World} {base g n cap : Nat} {l : List Nat} (h : w.ownsRow base 5 1 (.slice (some ⟨g, 0, none⟩) n cap) n (rowB l)) : SlN .u8 w (some ⟨g, 0, none⟩) l := by
  intro i x hx
  refine ⟨g, 0, rfl, ?_⟩
  have hn : (rowB l).length = n * 1 := h.1
  have hi : i < l.length := (List.getElem?_eq_some_iff.1 hx).1
  rw [Nat.zero_add, h.cellAt i (by rw [rowB_length] at hn; omega), rowB_get, hx]
  rfl
/-- what Scale has made behind k rounds -/
def scaled (a : Nat) (l : List Nat) (k : Nat) : List Nat := (l.take k).map (rmul a) ++ List.replicate (l.length - k) 0
set_option maxRecDepth 100000 in
theorem scaled_zero (a : Nat) (l : List Nat) : scaled a l 0 = List.replicate l.length 0 := by simp [scaled]
set_option maxRecDepth 100000 in
theorem scaled_all (a : Nat) (l : List Nat) : scaled a l l.length = l.map (rmul a) := by simp [scaled]
set_option maxRecDepth 100000 in
theorem scaled_length (a : Nat) (l : List Nat) (k : Nat) (h : k ≤ l.length) : (scaled a l k).length = l.length := by simp [scaled]; omega
set_option maxRecDepth 100000 in
theorem scaled_next (a : Nat) (l : List Nat) (k x : Nat) (hx : l[k]? = some x) : (scaled a l k).set k (rmul a x) = scaled a l (k + 1) := by
  have hk : k < l.length := (List.getElem?_eq_some_iff.1 hx).1
  unfold scaled
  rw [List.take_add_one, hx]
  have hl : ((l.take k).map (rmul a)).length = k := by simp; omega
  rw [List.set_append_right _ _ (by rw [hl]; exact Nat.le_refl _), hl, Nat.sub_self]
  obtain ⟨m, hm⟩ : ∃ m, l.length - k = m + 1 := ⟨l.length - k - 1, by omega⟩
  rw [hm, show l.length - (k + 1) = m by omega, List.replicate_succ]
  simp
set_option maxRecDepth 100000 in
theorem scaled_get (a : Nat) (l : List Nat) (k : Nat) (h : k < l.length) : ∃ y, (scaled a l k)[k]? = some y := by
  exact ⟨_, List.getElem?_eq_getElem (by rw [scaled_length _ _ _ (by omega)]; exact h)⟩
set_option maxRecDepth 100000 in
theorem info8 : (Try.prog.info? 5).map (fun i => (i.zero, i.size, i.bytes)) = some (some (.int .u8 0), 1, 1) := by kernel_rfl
set_option maxRecDepth 100000 in
theorem mk8 (n : Nat) (hn : n ≤ 2000) (w : World) : (Instr.makeSlice 71 (.int .i64 (n : Int)) (.int .i64 (n : Int))).run Try.prog w = .ok (.slice (some ⟨w.heap.size, 0, none⟩) n n) (w.alloc (.cells (madeCells #[.int .u8 0] n) 5)) := by
  obtain ⟨i0, hi, hz0, hz1, hz2⟩ := info_parts info8
  have h := run_make (P := Try.prog) w 71 5 i0 (.int .u8 0) Try.underlying71 hi hz0 .i64 .i64 (n : Int) (n : Int) (by omega) (by omega) (by rw [hz2]; omega) (by omega)
  simpa [hz1, Value.cells] using h
set_option maxRecDepth 100000 in
theorem made_row (n : Nat) : (madeCells #[.int .u8 0] n).toList = rowB (List.replicate n 0) := by
  rw [toList_madeCells_one]; simp [rowB]
attribute [local irreducible] gexp gtbl glog rmul rinv rpow zexp scaled rowB
def ScalePost (W : World) (l : List Nat) (e : Ending) (W' : World) : Prop := ∃ g, e = .returned (.slice (some ⟨g, 0, none⟩) l.length l.length) ∧ W'.ownsRow W.heap.size 5 1 (.slice (some ⟨g, 0, none⟩) l.length l.length) l.length (rowB l) ∧ Below W.heap.size W W'
set_option maxRecDepth 100000 in
set_option maxHeartbeats 1000000 in
theorem gf_scale (p a : Nat) (s : Option Addr) (cap : Nat) (l : List Nat) (w : World) (hg : IsGf w p) (ha : a < 256) (hs : SlN .u8 w s l) (hl : ∀ x ∈ l, x < 256) (hn : l.length ≤ 2000) :
    Calls Try.prog 129 #[.pointer (some ⟨p, 0, none⟩), .int .u8 a, .slice s l.length cap] w (ScalePost w (l.map (rmul a))) := by
  have hsh := hide hs
  have hlh := hide hl
  have hgh := hide hg
  have hpw := hg.lt
  have hmk := mk8 l.length hn
  clear hs hl hg
  go_enter Try.func129, Try.ntmps129
  go_wp2_with fail
  go_loopw [15] (fun i wr => ∃ k : Nat, k ≤ l.length ∧ i = .int .i64 k ∧ wr.ownsRow w.heap.size 5 1 (.slice (some ⟨w.heap.size, 0, none⟩) l.length l.length) l.length (rowB (scaled a l k)) ∧ Below w.heap.size w wr) (fun i _ => l.length - (intOf i).toNat)
  case atStart =>
    refine ⟨0, by omega, rfl, ?_, (Below.refl _ _).alloc (Nat.le_refl _) _⟩
    rw [scaled_zero, ← made_row]
    exact World.ownsRow_lit w _ _ (Nat.le_refl _) (by unfold maxLen; omega) (by rw [size_madeCells]; omega)
  case round =>
    obtain ⟨k, hk, rfl, hown, hbel⟩ := hrel
    clear hmk
    by_cases hlt : k < l.length
    · obtain ⟨x, hx⟩ : ∃ x, l[k]? = some x := ⟨_, List.getElem?_eq_getElem hlt⟩
      obtain ⟨b, off, rfl, hc⟩ := (hsh.out.below hbel) k x hx
      have hx2 := hlh.out x (List.mem_of_getElem? hx)
      have hnx := hide (scaled_next a l k x hx)
      obtain ⟨y, hy⟩ := scaled_get a l k hlt
      have hcy : wr.cell? ⟨w.heap.size, k, none⟩ = some (.int .u8 y) := by rw [hown.cellAt k (by omega), rowB_get, hy]; rfl
      have hfy := hown.frozenAt k
      have hg2 : IsGf wr p := hgh.out.below hbel hpw
      have hownh := hide hown
      have hg2h := hide hg2
      clear hx hy hown hg2
      go_wp2_with fail
      refine (gf_mul p a x wr hg2h.out ha hx2).mono ?_
      rintro e w1 ⟨rfl, n, rfl⟩
      go_wp2_with fail
      go_roundw
      case rel =>
        refine ⟨k + 1, by omega, by go_num, ?_, (below_drewN hbel _).setCell (Nat.le_refl _) _⟩
        rw [← hnx.out, ← rowB_set]
        exact (World.ownsRow.stored (w := wr.drewN n) hownh.out k _).1
      case measure => simp [intOf]; omega
    · obtain rfl : k = l.length := by omega
      rw [scaled_all] at hown
      have hle : (l.map (rmul a)).length = l.length := List.length_map _
      have hownh := hide hown
      clear hown
      go_wp2_with fail
      go_ret
      refine ⟨w.heap.size, by rw [hle]; rfl, ?_, hbel⟩
      rw [hle]
      exact hownh.out

/-- the products of two rows, together, as far as k of them -/
def dotN (a b : List Nat) : Nat → Nat
  | 0 => 0
  | k + 1 => dotN a b k ^^^ rmul ((a[k]?).getD 0) ((b[k]?).getD 0)
set_option maxRecDepth 100000 in
theorem dotN_zero (a b : List Nat) : dotN a b 0 = 0 := rfl
set_option maxRecDepth 100000 in
theorem dotN_succ (a b : List Nat) (k x y : Nat) (hx : a[k]? = some x) (hy : b[k]? = some y) : dotN a b (k + 1) = dotN a b k ^^^ rmul x y := by simp only [dotN]; rw [hx, hy]; rfl
set_option maxRecDepth 100000 in
theorem dotN_lt (a b : List Nat) (k : Nat) : dotN a b k < 256 := by
  induction k with
  | zero => exact (by decide : (0 : Nat) < 256)
  | succ k ih => exact Nat.xor_lt_two_pow (n := 8) ih (rmul_lt _ _)
attribute [local irreducible] dotN
set_option maxRecDepth 100000 in
theorem quiet_addN {P : Program} {f : FuncId} {args : Array Value} {w : World} {a n : Nat} {v : Value}
    (h : Calls P f args (w.drewN (a + n)) fun e w' => e = .returned v ∧ ∃ m, w' = (w.drewN (a + n)).drewN m) :
    Calls P f args (w.drewN (a + n)) fun e w'' => e = .returned v ∧ ∃ m, w'' = w.drewN (a + m) :=
  h.mono fun _ _ ⟨he, m, hm⟩ => ⟨he, n + m, by rw [hm, World.drewN_drewN, Nat.add_assoc]⟩
/-- what Mix leaves behind k rounds -/
def mixed (c : Nat) (a b : List Nat) : Nat → List Nat
  | 0 => a
  | k + 1 => (mixed c a b k).set k (((mixed c a b k)[k]?).getD 0 ^^^ rmul c ((b[k]?).getD 0))
set_option maxRecDepth 100000 in
theorem mixed_zero (c : Nat) (a b : List Nat) : mixed c a b 0 = a := rfl
set_option maxRecDepth 100000 in
theorem mixed_length (c : Nat) (a b : List Nat) (k : Nat) : (mixed c a b k).length = a.length := by
  induction k with
  | zero => rfl
  | succ k ih => simp [mixed, ih]
set_option maxRecDepth 100000 in
theorem mixed_old (c : Nat) (a b : List Nat) (k j : Nat) (h : k ≤ j) : (mixed c a b k)[j]? = a[j]? := by
  induction k with
  | zero => rfl
  | succ k ih =>
    simp only [mixed]
    rw [List.getElem?_set_ne (by omega), ih (by omega)]
set_option maxRecDepth 100000 in
theorem mixed_succ (c : Nat) (a b : List Nat) (k x y : Nat) (hx : a[k]? = some x) (hy : b[k]? = some y) : mixed c a b (k + 1) = (mixed c a b k).set k (x ^^^ rmul c y) := by
  simp only [mixed]
  rw [mixed_old c a b k k (Nat.le_refl _), hx, hy]
  rfl
attribute [local irreducible] mixed
def MixPost (W : World) (base g n cap : Nat) (l : List Nat) (e : Ending) (W' : World) : Prop := e = .returned (.tuple #[]) ∧ W'.ownsRow base 5 1 (.slice (some ⟨g, 0, none⟩) n cap) n (rowB l) ∧ W.grownBy W' (some g)
set_option maxRecDepth 100000 in
set_option maxHeartbeats 1000000 in
theorem gf_mix_le (p g cap base c : Nat) (t : Option Addr) (ct : Nat) (a b : List Nat) (w : World) (hg : IsGf w p) (hne : p ≠ g) (hown : w.ownsRow base 5 1 (.slice (some ⟨g, 0, none⟩) a.length cap) a.length (rowB a)) (ht : SlN .u8 w t b) (htg : ∀ bb o, t = some ⟨bb, o, none⟩ → b ≠ [] → bb ≠ g) (hc : c < 256) (ha : ∀ x ∈ a, x < 256) (hb : ∀ x ∈ b, x < 256) (hn : a.length ≤ 2000) (hm : b.length ≤ 2000) (hab : a.length ≤ b.length) :
    Calls Try.prog 124 #[.pointer (some ⟨p, 0, none⟩), .slice (some ⟨g, 0, none⟩) a.length cap, .int .u8 c, .slice t b.length ct] w (MixPost w base g a.length cap (mixed c a b a.length)) := by
  have hth := hide ht
  have hah := hide ha
  have hbh := hide hb
  have hgh := hide hg
  have hownh := hide hown
  have htgh := Lib.hid htg
  have hpw := hg.lt
  clear ht ha hb hg hown htg
  go_enter Try.func124, Try.ntmps124
  go_wp2_with fail
  go_loopw [14] (fun i wr => ∃ k : Nat, k ≤ a.length ∧ i = .int .i64 k ∧ wr.ownsRow base 5 1 (.slice (some ⟨g, 0, none⟩) a.length cap) a.length (rowB (mixed c a b k)) ∧ w.grownBy wr (some g)) (fun i _ => a.length - (intOf i).toNat)
  case atStart => exact ⟨0, by omega, rfl, by rw [mixed_zero]; exact hownh.out, only_refl _ _⟩
  case round =>
    obtain ⟨k, hk, rfl, hown, hgr⟩ := hrel
    by_cases hlt : k < a.length
    · obtain ⟨x, hx⟩ : ∃ x, a[k]? = some x := ⟨_, List.getElem?_eq_getElem (by omega)⟩
      obtain ⟨y, hy⟩ : ∃ y, b[k]? = some y := ⟨_, List.getElem?_eq_getElem (by omega)⟩
      obtain ⟨b2, o2, rfl, hc2⟩ := hth.out k y hy
      have hbg := htgh.out b2 o2 rfl (by intro e; rw [e] at hy; simp at hy)
      have hc2' : wr.cell? ⟨b2, o2 + k, none⟩ = some (.int .u8 y) := hgr.cell hc2 (by intro e; injection e with e; exact hbg e)
      have hx2 := hah.out x (List.mem_of_getElem? hx)
      have hy2 := hbh.out y (List.mem_of_getElem? hy)
      have he := hide (mixed_succ c a b k x y hx hy)
      have hu := hide (u8_xor_nat x (rmul c y) hx2 (rmul_lt c y))
      have i1 : (k : Int) < (a.length : Int) := by omega
      have i2 : (k : Int) < (b.length : Int) := by omega
      have hc1 : wr.cell? ⟨g, k, none⟩ = some (.int .u8 x) := by rw [hown.cellAt k (by omega), rowB_get, mixed_old c a b k k (Nat.le_refl _), hx]; rfl
      have hf1 := hown.frozenAt k
      have hg2 : IsGf wr p := (hgr.block p hpw (by intro e; injection e with e; exact hne e)).trans hgh.out
      have hg2h := hide hg2
      have hown2 := hide hown
      clear hx hy hown hg2 hc2
      go_wp2_with fail
      go_region_with (go_at_call 130; refine (gf_mul p c y _ (IsGf.drew hg2h.out) hc hy2).mono ?_; rintro e w' ⟨rfl, n, rfl⟩)
      all_goals
        go_wp2_with fail
        rw [hu.out]
        go_roundw
        case rel =>
          refine ⟨k + 1, by omega, by go_num, ?_, only_set (only_drewN hgr _) k _⟩
          rw [he.out, ← rowB_set]
          exact (World.ownsRow.stored (w := wr.drewN _) hown2.out k _).1
        case measure => simp [intOf]; omega
    · obtain rfl : k = a.length := by omega
      have hownh2 := hide hown
      clear hown
      go_wp2_with fail
      go_end0
      exact ⟨rfl, hownh2.out, hgr⟩
set_option maxRecDepth 100000 in
set_option maxHeartbeats 1000000 in
theorem gf_mix_gt (p g cap base c : Nat) (t : Option Addr) (ct : Nat) (a b : List Nat) (w : World) (hg : IsGf w p) (hne : p ≠ g) (hown : w.ownsRow base 5 1 (.slice (some ⟨g, 0, none⟩) a.length cap) a.length (rowB a)) (ht : SlN .u8 w t b) (htg : ∀ bb o, t = some ⟨bb, o, none⟩ → b ≠ [] → bb ≠ g) (hc : c < 256) (ha : ∀ x ∈ a, x < 256) (hb : ∀ x ∈ b, x < 256) (hn : a.length ≤ 2000) (hm : b.length ≤ 2000) (hab : b.length < a.length) :
    Calls Try.prog 124 #[.pointer (some ⟨p, 0, none⟩), .slice (some ⟨g, 0, none⟩) a.length cap, .int .u8 c, .slice t b.length ct] w (MixPost w base g a.length cap (mixed c a b b.length)) := by
  have hth := hide ht
  have hah := hide ha
  have hbh := hide hb
  have hgh := hide hg
  have hownh := hide hown
  have htgh := Lib.hid htg
  have hpw := hg.lt
  clear ht ha hb hg hown htg
  go_enter Try.func124, Try.ntmps124
  go_wp2_with fail
  go_loopw [14] (fun i wr => ∃ k : Nat, k ≤ b.length ∧ i = .int .i64 k ∧ wr.ownsRow base 5 1 (.slice (some ⟨g, 0, none⟩) a.length cap) a.length (rowB (mixed c a b k)) ∧ w.grownBy wr (some g)) (fun i _ => b.length - (intOf i).toNat)
  case atStart => exact ⟨0, by omega, rfl, by rw [mixed_zero]; exact hownh.out, only_refl _ _⟩
  case round =>
    obtain ⟨k, hk, rfl, hown, hgr⟩ := hrel
    by_cases hlt : k < b.length
    · obtain ⟨x, hx⟩ : ∃ x, a[k]? = some x := ⟨_, List.getElem?_eq_getElem (by omega)⟩
      obtain ⟨y, hy⟩ : ∃ y, b[k]? = some y := ⟨_, List.getElem?_eq_getElem (by omega)⟩
      obtain ⟨b2, o2, rfl, hc2⟩ := hth.out k y hy
      have hbg := htgh.out b2 o2 rfl (by intro e; rw [e] at hy; simp at hy)
      have hc2' : wr.cell? ⟨b2, o2 + k, none⟩ = some (.int .u8 y) := hgr.cell hc2 (by intro e; injection e with e; exact hbg e)
      have hx2 := hah.out x (List.mem_of_getElem? hx)
      have hy2 := hbh.out y (List.mem_of_getElem? hy)
      have he := hide (mixed_succ c a b k x y hx hy)
      have hu := hide (u8_xor_nat x (rmul c y) hx2 (rmul_lt c y))
      have i1 : (k : Int) < (a.length : Int) := by omega
      have i2 : (k : Int) < (b.length : Int) := by omega
      have hc1 : wr.cell? ⟨g, k, none⟩ = some (.int .u8 x) := by rw [hown.cellAt k (by omega), rowB_get, mixed_old c a b k k (Nat.le_refl _), hx]; rfl
      have hf1 := hown.frozenAt k
      have hg2 : IsGf wr p := (hgr.block p hpw (by intro e; injection e with e; exact hne e)).trans hgh.out
      have hg2h := hide hg2
      have hown2 := hide hown
      clear hx hy hown hg2 hc2
      go_wp2_with fail
      go_region_with (go_at_call 130; refine (gf_mul p c y _ (IsGf.drew hg2h.out) hc hy2).mono ?_; rintro e w' ⟨rfl, n, rfl⟩)
      all_goals
        go_wp2_with fail
        rw [hu.out]
        go_roundw
        case rel =>
          refine ⟨k + 1, by omega, by go_num, ?_, only_set (only_drewN hgr _) k _⟩
          rw [he.out, ← rowB_set]
          exact (World.ownsRow.stored (w := wr.drewN _) hown2.out k _).1
        case measure => simp [intOf]; omega
    · obtain rfl : k = b.length := by omega
      have hownh2 := hide hown
      clear hown
      go_wp2_with fail
      go_end0
      exact ⟨rfl, hownh2.out, hgr⟩
set_option maxRecDepth 100000 in
/-- Mix, whole. -/
theorem gf_mix (p g cap base c : Nat) (t : Option Addr) (ct : Nat) (a b : List Nat) (w : World) (hg : IsGf w p) (hne : p ≠ g) (hown : w.ownsRow base 5 1 (.slice (some ⟨g, 0, none⟩) a.length cap) a.length (rowB a)) (ht : SlN .u8 w t b) (htg : ∀ bb o, t = some ⟨bb, o, none⟩ → b ≠ [] → bb ≠ g) (hc : c < 256) (ha : ∀ x ∈ a, x < 256) (hb : ∀ x ∈ b, x < 256) (hn : a.length ≤ 2000) (hm : b.length ≤ 2000) :
    Calls Try.prog 124 #[.pointer (some ⟨p, 0, none⟩), .slice (some ⟨g, 0, none⟩) a.length cap, .int .u8 c, .slice t b.length ct] w (MixPost w base g a.length cap (mixed c a b (min a.length b.length))) := by
  by_cases h : a.length ≤ b.length
  · rw [Nat.min_eq_left h]; exact gf_mix_le p g cap base c t ct a b w hg hne hown ht htg hc ha hb hn hm h
  · rw [Nat.min_eq_right (by omega)]; exact gf_mix_gt p g cap base c t ct a b w hg hne hown ht htg hc ha hb hn hm (by omega)
/-- Same: two slices of bytes are alike. -/
def SamePost (W : World) (x : Bool) (e : Ending) (W' : World) : Prop := e = .returned (.bool x) ∧ ∃ n, W' = W.drewN n
set_option maxRecDepth 100000 in
theorem own_open {w : World} {base n : Nat} {v : Value} {xs : List Value} (h : w.ownsRow base 5 1 v n xs) (hne : v ≠ .slice none 0 0) : ∃ g cap, v = .slice (some ⟨g, 0, none⟩) n cap ∧ base ≤ g ∧ g < w.heap.size := by
  rcases h.2 with ⟨h1, _⟩ | ⟨g, cap, cur, hv, hb, hg, _⟩
  · exact absurd h1 hne
  · exact ⟨g, cap, hv, hb, (Array.getElem?_eq_some_iff.1 hg).1⟩
set_option maxRecDepth 100000 in
theorem own_drewN {w : World} {base n : Nat} {v : Value} {xs : List Value} (h : w.ownsRow base 5 1 v n xs) (k : Nat) : (w.drewN k).ownsRow base 5 1 v n xs := h
set_option maxRecDepth 100000 in
theorem wpList_app8 {ops : Array Oper} {rest : List Oper} {o : Oper} {a : Act} {w : World} {Q : Exit → Act → World → Prop} (hgd : o.guard = none) (s x : Operand)
    (ho : o.op = .call { callee := .builtin .append, args := #[s, x], argTypes := #[71, 71] })
    (g0 : Nat) (hs : a.eval s = .slice (some ⟨g0, 0, none⟩) 0 0) (hown : w.ownsRow g0 5 1 (.slice (some ⟨g0, 0, none⟩) 0 0) 0 (#[] : Array Value).toList)
    (A : Option Addr) (c : Nat) (l : List Nat) (hx : a.eval x = .slice A l.length c) (hsl : SlN .u8 w A l) (hnone : A = none → l.length = 0 ∧ c = 0) (hn : l.length ≤ 2000) (hb : g0 < w.heap.size)
    (h : ∀ g cap w', g0 ≤ g → g < w'.heap.size → w'.ownsRow g0 5 1 (.slice (some ⟨g, 0, none⟩) l.length cap) l.length (rowB l) → w.grownBy w' (some g0) → wpList Try.prog ops Q rest (a.put o.dst (.slice (some ⟨g, 0, none⟩) l.length cap)) w') :
    wpList Try.prog ops Q (o :: rest) a w := by
  obtain ⟨i0, hi, hz0, hz1, hz2⟩ := info_parts info8
  cases A with
  | none =>
    obtain ⟨h1, rfl⟩ := hnone rfl
    have hl : l = [] := List.length_eq_zero_iff.1 h1
    subst hl
    refine wpList_append_own_none hgd s x 71 ho g0 5 i0 1 Try.underlying71 hi _ 0 _ hs hown hx ?_
    refine h g0 0 w (Nat.le_refl _) hb ?_ (only_refl _ _)
    have hr : rowB [] = [] := by unfold rowB; rfl
    rw [hr]
    exact hown
  | some ad =>
    refine wpList_append_own _ hgd s x 71 ho g0 5 i0 (.int .u8 0) 1 1 Try.underlying71 hi hz0 hz1 hz2 rfl (by decide) _ 0 _ hs hown ad l.length c (rowB l) hx (by rw [rowB_length]; omega) ?_ ?_ (by unfold maxLen; omega) (by omega) (Nat.le_of_lt hb) ?_
    · intro j u hj
      rw [rowB_get] at hj
      obtain ⟨y, hy, hyu⟩ := Option.map_eq_some_iff.1 hj
      obtain ⟨b, off, he, hc⟩ := hsl j y hy
      injection he with he
      subst he hyu
      by_cases hz : j = 0
      · subst hz; simpa [Addr.add] using hc
      · simpa [Addr.add, hz] using hc
    · intro u hu
      unfold rowB at hu
      obtain ⟨y, _, rfl⟩ := List.mem_map.1 hu
      rfl
    · intro v' w' h1 h2 h3
      have hne : v' ≠ .slice none 0 0 := fun e => by have := (h3.1 e).1; simp at this
      obtain ⟨g, cap, rfl, hg1, hg2⟩ := own_open h1 hne
      have e0 : 0 + l.length = l.length := Nat.zero_add _
      rw [e0] at h1 ⊢
      exact h g cap w' hg1 hg2 h1 h2
end Go.Proofs.Ytmfagdbocidfjaa

/- The contracts of package poly's Add and Mul. Conditions: the slices read as the functions named. -/
import Derived.Test.YtmdpbacjcidpgaaPoly2
namespace Go.Proofs.Ytmdpbacjcidpgaa
open Go.RowKit
attribute [local irreducible] gexp gtbl glog rmul rinv rpow zexp
attribute [local irreducible] td cvs cv mixF xf OwnB
def adF (f g : Nat → Nat) (i j : Nat) : Nat := if j < i then xf f g j else f j
theorem ad_next (f g : Nat → Nat) (i j : Nat) : (if j = i then xf f g i else adF f g i j) = adF f g (i + 1) j := by
  unfold adF
  by_cases e : j = i
  · subst e; rw [if_pos rfl, if_pos (by omega)]
  · rw [if_neg e]
    by_cases h : j < i
    · rw [if_pos h, if_pos (by omega)]
    · rw [if_neg h, if_neg (by omega)]
theorem ad_end (f g : Nat → Nat) (m : Nat) (h : Zr m g) : adF f g m = xf f g := funext fun j => by
  unfold adF
  by_cases e : j < m
  · rw [if_pos e]
  · rw [if_neg e]; unfold xf; rw [h j (by omega), Nat.xor_zero]
theorem ad_zero (f g : Nat → Nat) : adF f g 0 = f := funext fun j => by unfold adF; rw [if_neg (by omega)]
theorem ad_above (f g : Nat → Nat) (i : Nat) : adF f g i i = f i := by unfold adF; rw [if_neg (by omega)]
attribute [local irreducible] adF
set_option maxHeartbeats 2000000 in
theorem p_add_ge (s t : Option Addr) (n m cs ct : Nat) (f g : Nat → Nat) (w : World) (hs : Pv w s n cs f) (ht : Pv w t m ct g) (hf : Bd f) (hg : Bd g) (hzf : Zr n f) (hzg : Zr m g) (hn : n ≤ 100000) (hm : m ≤ 100000) (hnm : m ≤ n) :
    Calls Try.prog 17 #[.slice s n cs, .slice t m ct] w (RowPost w (td (xf f g) (max n m)) (xf f g)) := by
  have hmx : max n m = n := by omega
  rw [hmx]
  have hsh := Lib.hid hs
  have hth := Lib.hid ht
  have hu := Lib.hid (fun i => xf_u8 f g i (hf i) (hg i))
  have hnx := Lib.hid (fun i j => ad_next f g i j)
  have hend := Lib.hid (ad_end f g m hzg)
  have h0 := Lib.hid (ad_zero f g)
  have hab := Lib.hid (fun i => ad_above f g i)
  have d0 : decide (n < m) = false := decide_eq_false (by omega)
  clear hs ht hf hg hzf hzg hmx
  go_enter Try.func17, Try.ntmps17
  go_wp2_with (at_builtin; refine wpList_appB rfl (.tmp 15) (.tmp 16) rfl w rfl rfl s cs n f rfl hsh.out.rd hsh.out.nil (by omega) ?_; intro q c2 w2 hq1 hq2 hq3 hr hB)
  have hrh := Lib.hid hr
  have hBh := Lib.hid hB
  clear hr hB
  go_loopw [20] (fun v wr => ∃ i : Nat, i ≤ m ∧ v = .int .i64 i ∧ BRow wr q n (adF f g i) ∧ Below w.heap.size w wr) (fun v _ => m - (intOf v).toNat)
  case atStart => exact ⟨0, Nat.zero_le _, rfl, by rw [h0.out]; exact hrh.out, hBh.out⟩
  case round =>
    obtain ⟨i, hi, rfl, hr, hB⟩ := hrel
    clear hrh hBh
    by_cases hlt : i < m
    · obtain ⟨b, off, hx, hc⟩ := hth.out.rd i hlt
      subst hx
      have c1 := (hB.cell (p := ⟨b, off + i, none⟩) (cell_block_lt hc)).trans hc
      have c2 := FRow.cell hr i (by omega)
      have c3 := FRow.fr hr i
      have e1 := hu.out i
      have i1 : (i : Int) < (m : Int) := by omega
      have i2 : (i : Int) < (n : Int) := by omega
      have hrs := Lib.hid (hr.set i (xf f g i))
      have hBs := Lib.hid (hB.setCell (p := ⟨q, i, none⟩) hq1 (.int .u8 (xf f g i : Nat)))
      rw [hab.out i] at c2
      clear hc hr hB
      go_wp2_with fail
      go_roundw
      case rel => exact ⟨i + 1, by omega, by go_num, hrs.out.congr (fun j _ => hnx.out i j), hBs.out⟩
      case measure => simp [intOf]; omega
    · obtain rfl : i = m := by omega
      have hr2 := hr
      rw [hend.out] at hr2
      have ktr := Lib.hid (p_trim (some ⟨q, 0, none⟩) n c2 (xf f g) wr (Pv.row hr2 hq2 hq3) (by omega))
      have hBh := Lib.hid hB
      clear hr hr2 hB
      go_wp2_with fail
      refine ktr.out.mono ?_
      rintro e w5 ⟨g2, c5, rfl, h1, h2, h3, h4, h5⟩
      go_wp2_with fail
      go_ret
      exact ⟨g2, c5, rfl, Nat.le_trans hBh.out.size h1, h2, h3, h4, hBh.out.trans (h5.mono hBh.out.size)⟩
set_option maxHeartbeats 2000000 in
theorem p_add_lt (s t : Option Addr) (n m cs ct : Nat) (f g : Nat → Nat) (w : World) (hs : Pv w s n cs f) (ht : Pv w t m ct g) (hf : Bd f) (hg : Bd g) (hzf : Zr n f) (hzg : Zr m g) (hn : n ≤ 100000) (hm : m ≤ 100000) (hnm : n < m) :
    Calls Try.prog 17 #[.slice s n cs, .slice t m ct] w (RowPost w (td (xf f g) (max n m)) (xf f g)) := by
  have hmx : max n m = m := by omega
  rw [hmx]
  have hsh := Lib.hid ht
  have hth := Lib.hid hs
  have hu := Lib.hid (fun i => xf_u8 g f i (hg i) (hf i))
  have hnx := Lib.hid (fun i j => ad_next g f i j)
  have hend := Lib.hid ((ad_end g f n hzf).trans (xf_comm g f))
  have h0 := Lib.hid (ad_zero g f)
  have hab := Lib.hid (fun i => ad_above g f i)
  have d0 : decide (n < m) = true := decide_eq_true (by omega)
  clear hs ht hf hg hzf hzg hmx
  go_enter Try.func17, Try.ntmps17
  go_wp2_with (at_builtin; refine wpList_appB rfl (.tmp 15) (.tmp 16) rfl w rfl rfl t ct m g rfl hsh.out.rd hsh.out.nil (by omega) ?_; intro q c2 w2 hq1 hq2 hq3 hr hB)
  have hrh := Lib.hid hr
  have hBh := Lib.hid hB
  clear hr hB
  go_loopw [20] (fun v wr => ∃ i : Nat, i ≤ n ∧ v = .int .i64 i ∧ BRow wr q m (adF g f i) ∧ Below w.heap.size w wr) (fun v _ => n - (intOf v).toNat)
  case atStart => exact ⟨0, Nat.zero_le _, rfl, by rw [h0.out]; exact hrh.out, hBh.out⟩
  case round =>
    obtain ⟨i, hi, rfl, hr, hB⟩ := hrel
    clear hrh hBh
    by_cases hlt : i < n
    · obtain ⟨b, off, hx, hc⟩ := hth.out.rd i hlt
      subst hx
      have c1 := (hB.cell (p := ⟨b, off + i, none⟩) (cell_block_lt hc)).trans hc
      have c2 := FRow.cell hr i (by omega)
      have c3 := FRow.fr hr i
      have e1 := hu.out i
      have i1 : (i : Int) < (n : Int) := by omega
      have i2 : (i : Int) < (m : Int) := by omega
      have hrs := Lib.hid (hr.set i (xf g f i))
      have hBs := Lib.hid (hB.setCell (p := ⟨q, i, none⟩) hq1 (.int .u8 (xf g f i : Nat)))
      rw [hab.out i] at c2
      clear hc hr hB
      go_wp2_with fail
      go_roundw
      case rel => exact ⟨i + 1, by omega, by go_num, hrs.out.congr (fun j _ => hnx.out i j), hBs.out⟩
      case measure => simp [intOf]; omega
    · obtain rfl : i = n := by omega
      have hr2 := hr
      rw [hend.out] at hr2
      have ktr := Lib.hid (p_trim (some ⟨q, 0, none⟩) m c2 (xf f g) wr (Pv.row hr2 hq2 hq3) (by omega))
      have hBh := Lib.hid hB
      clear hr hr2 hB
      go_wp2_with fail
      refine ktr.out.mono ?_
      rintro e w5 ⟨g2, c5, rfl, h1, h2, h3, h4, h5⟩
      go_wp2_with fail
      go_ret
      exact ⟨g2, c5, rfl, Nat.le_trans hBh.out.size h1, h2, h3, h4, hBh.out.trans (h5.mono hBh.out.size)⟩
theorem p_add (s t : Option Addr) (n m cs ct : Nat) (f g : Nat → Nat) (w : World) (hs : Pv w s n cs f) (ht : Pv w t m ct g) (hf : Bd f) (hg : Bd g) (hzf : Zr n f) (hzg : Zr m g) (hn : n ≤ 100000) (hm : m ≤ 100000) :
    Calls Try.prog 17 #[.slice s n cs, .slice t m ct] w (RowPost w (td (xf f g) (max n m)) (xf f g)) := by
  by_cases h : m ≤ n
  · exact p_add_ge s t n m cs ct f g w hs ht hf hg hzf hzg hn hm h
  · exact p_add_lt s t n m cs ct f g w hs ht hf hg hzf hzg hn hm (by omega)
end Go.Proofs.Ytmdpbacjcidpgaa

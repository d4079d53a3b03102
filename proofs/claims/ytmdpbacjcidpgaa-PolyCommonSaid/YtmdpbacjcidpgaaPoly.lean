/- The contracts of package poly's Trim, Degree and Eval, and of the document's Degree, At, Eval. Conditions: the slices read as the functions named. -/
import Derived.Test.YtmdpbacjcidpgaaPolyPlain
import Derived.Test.YtmdpbacjcidpgaaBytes
import Derived.Test.YtmdpbacjcidpgaaGfRef
import Derived.Test.YtmdpbacjcidpgaaGf2
import Derived.Test.YtmdpbacjcidpgaaRead
namespace Go.Proofs.Ytmdpbacjcidpgaa
open Go.RowKit
attribute [local irreducible] gexp gtbl glog rmul rinv rpow zexp
structure Pv (w : World) (s : Option Addr) (n cap : Nat) (f : Nat → Nat) : Prop where
  rd : By w s n f
  nil : s = none → n = 0 ∧ cap = 0
  c0 : n ≤ cap
  c1 : cap ≤ maxLen
theorem Pv.below {w w' : World} {s : Option Addr} {n cap : Nat} {f : Nat → Nat} (h : Pv w s n cap f) (hb : Below w.heap.size w w') : Pv w' s n cap f := ⟨h.rd.below hb, h.nil, h.c0, h.c1⟩
theorem Pv.drewN {w : World} {s : Option Addr} {n cap : Nat} {f : Nat → Nat} (h : Pv w s n cap f) (k : Nat) : Pv (w.drewN k) s n cap f := ⟨h.rd.drewN k, h.nil, h.c0, h.c1⟩
theorem Pv.congr {w : World} {s : Option Addr} {n cap : Nat} {f f' : Nat → Nat} (h : Pv w s n cap f) (e : ∀ i, i < n → f i = f' i) : Pv w s n cap f' := ⟨h.rd.congr e, h.nil, h.c0, h.c1⟩
theorem Pv.row {w : World} {g n cap : Nat} {f : Nat → Nat} (h : BRow w g n f) (h0 : n ≤ cap) (h1 : cap ≤ maxLen) : Pv w (some ⟨g, 0, none⟩) n cap f := ⟨h.by, (fun e => by cases e), h0, h1⟩
/-- a new row comes back -/
def RowPost (W : World) (m : Nat) (f : Nat → Nat) (e : Ending) (W' : World) : Prop := ∃ g cap, e = .returned (.slice (some ⟨g, 0, none⟩) m cap) ∧ W.heap.size ≤ g ∧ m ≤ cap ∧ cap ≤ maxLen ∧ BRow W' g m f ∧ Below W.heap.size W W'
theorem RowPost.cast {W : World} {m m' : Nat} {f : Nat → Nat} {e : Ending} {W' : World} (h : m = m') (hp : RowPost W m f e W') : RowPost W m' f e W' := h ▸ hp
/-- a slice comes back that reads so -/
def PolyPost (W : World) (m : Nat) (f : Nat → Nat) (e : Ending) (W' : World) : Prop := ∃ s cap, e = .returned (.slice s m cap) ∧ Pv W' s m cap f ∧ Below W.heap.size W W'
theorem RowPost.poly {W : World} {m : Nat} {f : Nat → Nat} {e : Ending} {W' : World} (h : RowPost W m f e W') : PolyPost W m f e W' := by
  obtain ⟨g, cap, he, _, h0, h1, hr, hb⟩ := h
  exact ⟨_, cap, he, Pv.row hr h0 h1, hb⟩
theorem td_next_z (f : Nat → Nat) (j : Nat) (h : f j = 0) : td f (j + 1) = td f j := by simp only [td]; rw [if_pos h]
theorem td_next_n (f : Nat → Nat) (j : Nat) (h : f j ≠ 0) : td f (j + 1) = j + 1 := by simp only [td]; rw [if_neg h]
theorem beq_nat0 (x : Nat) (h : x = 0) : (((x : Nat) : Int) == 0) = true := by subst h; rfl
theorem beq_nat1 (x : Nat) (h : x ≠ 0) : (((x : Nat) : Int) == 0) = false := by simp; omega
theorem bne_nat0 (x : Nat) (h : x = 0) : (((x : Nat) : Int) != 0) = false := by subst h; rfl
theorem bne_nat1 (x : Nat) (h : x ≠ 0) : (((x : Nat) : Int) != 0) = true := by simp [bne]; omega
attribute [local irreducible] td
set_option maxHeartbeats 1000000 in
theorem p_trim (s : Option Addr) (n cap : Nat) (f : Nat → Nat) (w : World) (hp : Pv w s n cap f) (hn : n ≤ 100000) :
    Calls Try.prog 23 #[.slice s n cap] w (RowPost w (td f n) f) := by
  obtain ⟨hrd, hnil, hc0, hc1⟩ := hp
  unfold maxLen at hc1
  have hrdh := Lib.hid hrd
  have hle := td_le f n
  clear hrd
  cases s with
  | none =>
    obtain ⟨rfl, rfl⟩ := hnil rfl
    have ht : td f 0 = 0 := by unfold td; rfl
    have hth := Lib.hid ht
    clear hnil ht
    go_enter Try.func23, Try.ntmps23
    go_wp2_with fail
    go_loop [3] (fun v => v = .int .i64 0) (fun v => (intOf v).toNat)
    case atStart => rfl
    case round =>
      subst hrel
      go_wp2_with (at_builtin; refine wpList_appB rfl (.tmp 18) (.tmp 21) rfl w rfl rfl none 0 0 f rfl hrdh.out (fun _ => ⟨rfl, rfl⟩) (by omega) ?_; intro g c2 w4 h1 h2 h3 h4 h5)
      go_ret
      exact RowPost.cast hth.out.symm ⟨g, c2, rfl, h1, h2, h3, h4, h5⟩
  | some x =>
    clear hnil
    go_enter Try.func23, Try.ntmps23
    go_wp2_with fail
    go_loop [3] (fun v => ∃ k : Nat, k ≤ n ∧ v = .int .i64 k ∧ Hid (td f k = td f n)) (fun v => (intOf v).toNat)
    case atStart => exact ⟨n, Nat.le_refl _, rfl, hide rfl⟩
    case round =>
      obtain ⟨k, hk, rfl, htd⟩ := hrel
      cases k with
      | zero =>
        have h0 : td f n = 0 := by rw [← htd.out]; unfold td; rfl
        have hz : Hid (td f n = 0) := h0
        clear h0 htd
        go_wp2_with (at_builtin; refine wpList_appB rfl (.tmp 18) (.tmp 21) rfl w rfl rfl (some x) cap 0 f rfl (hrdh.out.less (Nat.zero_le _)) (fun e => by cases e) (by omega) ?_; intro g c2 w4 h1 h2 h3 h4 h5)
        go_ret
        exact RowPost.cast hz.out.symm ⟨g, c2, rfl, h1, h2, h3, h4, h5⟩
      | succ j =>
        obtain ⟨b, off, hx, hc⟩ := hrdh.out j (by omega)
        injection hx with hx
        subst hx
        have i1 : (j : Int) < (n : Int) := by omega
        have hstep := Lib.hid (fun h => td_next_z f j h)
        have hstop := Lib.hid (fun h => td_next_n f j h)
        generalize hfj : f j = y at *
        have hfjh := Lib.hid hfj
        clear hfj
        by_cases hy : y = 0
        · have d := beq_nat0 y hy
          have e1 := Lib.hid (hstep.out hy)
          clear hy
          go_wp2_with fail
          go_round
          case rel => exact ⟨j, by omega, by go_num, hide (by rw [← e1.out]; exact htd.out)⟩
          case measure => first | (simp [intOf]; done) | (simp [intOf]; omega)
        · have d := beq_nat1 y hy
          have e1 := Lib.hid ((hstop.out hy).symm.trans htd.out)
          clear hy hstep hstop
          go_wp2_with (at_builtin; refine wpList_appB rfl (.tmp 18) (.tmp 21) rfl w rfl rfl (some ⟨b, off, none⟩) cap (j + 1) f rfl (hrdh.out.less hk) (fun e => by cases e) (by omega) ?_; intro g c2 w4 h1 h2 h3 h4 h5)
          go_ret
          exact RowPost.cast e1.out ⟨g, c2, rfl, h1, h2, h3, h4, h5⟩
set_option maxHeartbeats 1000000 in
theorem p_degree (s : Option Addr) (n cap : Nat) (f : Nat → Nat) (w : World) (hp : Pv w s n cap f) (hn : n ≤ 100000) :
    Calls Try.prog 24 #[.slice s n cap] w fun e w' => e = .returned (.int .i64 ((td f n : Nat) - 1)) ∧ w = w' := by
  have hrdh := Lib.hid hp.rd
  clear hp
  go_enter Try.func24, Try.ntmps24
  go_wp2_with fail
  go_loop [3] (fun v => ∃ k : Nat, k ≤ n ∧ v = .int .i64 ((k : Int) - 1) ∧ Hid (td f k = td f n)) (fun v => (intOf v + 1).toNat)
  case atStart => exact ⟨n, Nat.le_refl _, rfl, hide rfl⟩
  case round =>
    obtain ⟨k, hk, rfl, htd⟩ := hrel
    cases k with
    | zero =>
      have h0 : td f n = 0 := by rw [← htd.out]; unfold td; rfl
      have hz : Hid (td f n = 0) := h0
      clear h0 htd
      go_wp2_with fail
      go_ret
      exact ⟨ret_int (by rw [hz.out]; rfl), rfl⟩
    | succ j =>
      obtain ⟨b, off, rfl, hc⟩ := hrdh.out j (by omega)
      have i1 : (j : Int) < (n : Int) := by omega
      have hstep := Lib.hid (fun h => td_next_z f j h)
      have hstop := Lib.hid (fun h => td_next_n f j h)
      generalize hfj : f j = y at *
      have hfjh := Lib.hid hfj
      clear hfj
      by_cases hy : y = 0
      · have d := bne_nat0 y hy
        have e1 := Lib.hid (hstep.out hy)
        clear hy
        go_wp2_with fail
        go_round
        case rel => exact ⟨j, by omega, by go_num, hide (by rw [← e1.out]; exact htd.out)⟩
        case measure => first | (simp [intOf]; done) | (simp [intOf]; omega)
      · have d := bne_nat1 y hy
        have e1 := Lib.hid ((hstop.out hy).symm.trans htd.out)
        clear hy hstep hstop
        go_wp2_with fail
        go_ret
        exact ⟨ret_int (by have := e1.out; omega), rfl⟩
attribute [local irreducible] hv ev
theorem ret_quiet {P : Program} {f : FuncId} {args : Array Value} {w : World} {v : Value} (h : Calls P f args w fun e w' => e = .returned v ∧ ∃ n, w' = w.drewN n) : Calls P f args w (Ret w v) :=
  h.mono fun _ _ ⟨he, n, hn⟩ => ⟨he, by rw [hn]; exact below_drewN (Below.refl _ _) n⟩
theorem ret_same {P : Program} {f : FuncId} {args : Array Value} {w : World} {v : Value} (h : Calls P f args w fun e w' => e = .returned v ∧ w = w') : Calls P f args w (Ret w v) :=
  h.mono fun _ _ ⟨he, hn⟩ => ⟨he, by rw [← hn]; exact Below.refl _ _⟩
set_option maxHeartbeats 1000000 in
theorem p_eval (p : Nat) (s : Option Addr) (n cap x : Nat) (f : Nat → Nat) (w : World) (hg : IsGf w p) (hp : Pv w s n cap f) (hn : n ≤ 100000) (hx : x < 256) (hf : Bd f) :
    Calls Try.prog 14 #[.pointer (some ⟨p, 0, none⟩), .slice s n cap, .int .u8 x] w (Ret w (.int .u8 (ev f x n : Nat))) := by
  have hrdh := Lib.hid hp.rd
  have hgh := hide hg
  have hgl := hg.lt
  have hlt := Lib.hid (fun k => hv_lt f x n k hf)
  have hall := Lib.hid (hv_all f x n hx hf)
  have hfh := Lib.hid hf
  have h0 : Hid (hv f x n 0 = 0) := hide (by unfold hv; rfl)
  have hs : Hid (∀ k, hv f x n (k + 1) = rmul (hv f x n k) x ^^^ f (n - 1 - k)) := hide (fun k => by rw [hv])
  clear hp hg hf
  go_enter Try.func14, Try.ntmps14
  go_wp2_with fail
  go_loopw [7, 8] (fun y v wr => ∃ k : Nat, k ≤ n ∧ v = .int .i64 ((n : Int) - 1 - (k : Int)) ∧ y = .int .u8 (hv f x n k : Nat) ∧ Below w.heap.size w wr) (fun _ v _ => (intOf v + 1).toNat)
  case atStart => exact ⟨0, Nat.zero_le _, by go_num, by rw [h0.out]; rfl, Below.refl _ _⟩
  case round =>
    obtain ⟨k, hk, rfl, rfl, hB⟩ := hrel
    by_cases hlt2 : k < n
    · obtain ⟨b, off, rfl, hc⟩ := hrdh.out (n - 1 - k) (by omega)
      have hcb : b < w.heap.size := cell_block_lt hc
      have hl := hlt.out k
      have hf2 := hfh.out (n - 1 - k)
      have he := Lib.hid (hs.out k)
      have hidx : ((n : Int) - 1 - (k : Int)).toNat = n - 1 - k := by omega
      have i1 : (n : Int) - 1 - (k : Int) < (n : Int) := by omega
      have i2 : 0 ≤ (n : Int) - 1 - (k : Int) := by omega
      have d1 : decide ((n : Int) - 1 - (k : Int) ≥ 0) = true := decide_eq_true i2
      have hin := Lib.hid (fun (W : World) (hb : Below w.heap.size w W) => (⟨(hb.cell (p := ⟨b, off + (n - 1 - k), none⟩) hcb).trans hc, hgh.out.below hb hgl, hb⟩ : W.cell? ⟨b, off + (n - 1 - k), none⟩ = some (.int .u8 (f (n - 1 - k) : Nat)) ∧ IsGf W p ∧ Below w.heap.size w W))
      clear hc
      have hu := hide (u8_xor_nat (rmul (hv f x n k) x) (f (n - 1 - k)) (rmul_lt _ _) hf2)
      generalize f (n - 1 - k) = z at *
      generalize hv f x n k = y at *
      have hclh := Lib.hid (fun (W W' : World) (h : W.cell? ⟨b, off + (n - 1 - k), none⟩ = some (.int .u8 (z : Nat)) ∧ IsGf W p ∧ Below w.heap.size w W) (hb : Below W.heap.size W W') => hin.out W' (below_step h.2.2 h.2.2.size hb))
      have kmul := Lib.hid (fun (W : World) (h : W.cell? ⟨b, off + (n - 1 - k), none⟩ = some (.int .u8 (z : Nat)) ∧ IsGf W p ∧ Below w.heap.size w W) => ret_quiet (gf_mul p y x W h.2.1 hl hx))
      go_upto_region 5 with (fail)
      refine wp_region_quiet (C := fun W => W.cell? ⟨b, off + (n - 1 - k), none⟩ = some (.int .u8 (z : Nat)) ∧ IsGf W p ∧ Below w.heap.size w W) (by kernel_rfl) (by kernel_rfl) (hin.out _ (below_drewN hB 1)) ?_
      repeat (first
        | (refine q_run (v := ?_) ?_ ?_ ?_
           rotate_left
           · rfl
           · (intro x hSx; (try dsimp only at hSx); go_simp <;> with_reducible rfl)
           simp only [Act.put, List.setIfInBounds_toArray, List.set_cons_zero, List.set_cons_succ])
        | (refine q_skip ?_ ?_
           · rfl
           simp only [Act.put, List.setIfInBounds_toArray, List.set_cons_zero, List.set_cons_succ])
        | (refine q_call (fun x hCx => kmul.out x hCx) hclh.out ?_ ?_ ?_
           · rfl
           · (intro x hSx; (try dsimp only at hSx); go_simp <;> with_reducible rfl)
           simp only [Act.put, List.setIfInBounds_toArray, List.set_cons_zero, List.set_cons_succ]))
      refine wpQuiet_nil ?_
      intro x hSx
      rw [hu.out, ← he.out]
      have hfin := Lib.hid hSx.2.2
      clear hSx hin hclh kmul
      go_wp2_with fail
      go_roundw
      case rel => exact ⟨k + 1, by omega, by go_num, rfl, hfin.out⟩
      case measure => simp [intOf]; omega
    · obtain rfl : k = n := by omega
      have d1 : decide ((k : Int) - 1 - (k : Int) ≥ 0) = false := decide_eq_false (by omega)
      go_wp2_with fail
      go_ret
      exact ⟨by rw [hall.out]; rfl, hB⟩
end Go.Proofs.Ytmdpbacjcidpgaa

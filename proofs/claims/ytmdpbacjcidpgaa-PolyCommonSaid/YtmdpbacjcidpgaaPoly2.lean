/- The contracts of package poly's Add and Mul, and of the document's Add and Mul of layer 4. Conditions: the slices read as the functions named. -/
import Derived.Test.YtmdpbacjcidpgaaPolyRef
namespace Go.Proofs.Ytmdpbacjcidpgaa
open Go.RowKit
attribute [local irreducible] gexp gtbl glog rmul rinv rpow zexp
attribute [local irreducible] td cvs cv mixF
def xf (f g : Nat → Nat) (i : Nat) : Nat := f i ^^^ g i
theorem xf_bd {f g : Nat → Nat} (hf : Bd f) (hg : Bd g) : Bd (xf f g) := fun i => xor_lt8 (hf i) (hg i)
theorem xf_zr {f g : Nat → Nat} {n m : Nat} (hf : Zr n f) (hg : Zr m g) : Zr (max n m) (xf f g) := fun i hi => by unfold xf; rw [hf i (by omega), hg i (by omega)]; rfl
theorem xf_comm (f g : Nat → Nat) : xf f g = xf g f := funext fun i => Nat.xor_comm _ _
/-! ### a row that grows at its end -/
def OwnB (w : World) (base : Nat) (v : Value) (n : Nat) (f : Nat → Nat) : Prop := w.ownsRow base 5 1 v n (rowB ((List.range n).map f))
theorem OwnB.pv {w : World} {base n : Nat} {v : Value} {f : Nat → Nat} (h : OwnB w base v n f) : ∃ s cap, v = .slice s n cap ∧ Pv w s n cap f := by
  rcases h.2 with ⟨h1, h2⟩ | ⟨g, cap, cur, hv, hb, hg, q1, q2, q3, q4⟩
  · subst h2
    exact ⟨none, 0, h1, fun i hi => absurd hi (by omega), fun _ => ⟨rfl, rfl⟩, Nat.le_refl _, by unfold maxLen; omega⟩
  · refine ⟨some ⟨g, 0, none⟩, cap, hv, fun i hi => ⟨g, 0, rfl, ?_⟩, (fun e => by cases e), q1, q2⟩
    rw [Nat.zero_add, cell_of_block hg]
    have e : (rowB ((List.range n).map f))[i]? = some (.int .u8 (f i : Nat)) := by rw [rowB_get]; simp [hi]
    rw [← q4, List.getElem?_take, if_pos (by omega), Array.getElem?_toList] at e
    exact e
theorem OwnB.nil (w : World) (base : Nat) (f : Nat → Nat) : OwnB w base (.slice none 0 0) 0 f := World.ownsRow_nil _ _ _ _
theorem below_ownB {w0 a b : World} {base n : Nat} {v : Value} {xs : List Value} (h : a.ownsRow base 5 1 v n xs) (hb : Below base w0 a) (hB : base ≤ w0.heap.size) (hg : a.grownBy b v.ownBlock) : Below base w0 b := by
  have hsz := hb.size
  refine ⟨hg.os.trans hb.os, hg.tape.trans hb.tape, hg.output.trans hb.output, Nat.le_trans hb.size hg.size, fun i hi => ?_⟩
  rw [hg.block i (by omega) (fun e => by have := (h.lt i e.symm).1; omega)]
  exact hb.block i hi
theorem rowB_snoc (n : Nat) (f : Nat → Nat) : rowB ((List.range n).map f) ++ [.int .u8 (f n : Nat)] = rowB ((List.range (n + 1)).map f) := by
  unfold rowB
  rw [List.range_succ]
  simp
theorem wpList_snocB {ops : Array Oper} {rest : List Oper} {o : Oper} {a : Act} {w : World} {Q : Exit → Act → World → Prop} (hgd : o.guard = none) (s x : Operand)
    (ho : o.op = .call { callee := .builtin .append, args := #[s, x], argTypes := #[24, 24] })
    (w0 W : World) (v : Value) (base k : Nat) (f : Nat → Nat) (hs : a.eval s = v) (hw : w = W.alloc (.cells #[.int .u8 (f k : Nat)] 5)) (hx : a.eval x = .slice (some ⟨W.heap.size, 0, none⟩) 1 1)
    (hown : OwnB W base v k f) (hk : k ≤ 100000000) (hB : Below base w0 W) (hbase : base ≤ w0.heap.size)
    (h : ∀ v' w', OwnB w' base v' (k + 1) f → Below base w0 w' → wpList Try.prog ops Q rest (a.put o.dst v') w') :
    wpList Try.prog ops Q (o :: rest) a w := by
  subst hw
  obtain ⟨i0, hi, hz0, hz1, hz2⟩ := info_parts info8
  have hsz := hB.size
  have hown2 : (W.alloc (.cells #[.int .u8 (f k : Nat)] 5)).ownsRow base 5 1 v k (rowB ((List.range k).map f)) := World.ownsRow.alloc hown _
  have hB2 : Below base w0 (W.alloc (.cells #[.int .u8 (f k : Nat)] 5)) := hB.alloc (Nat.le_trans hbase hsz) _
  refine wpList_append_own _ hgd s x 24 ho base 5 i0 (.int .u8 0) 1 1 Try.underlying24 hi hz0 hz1 hz2 rfl (by decide) _ k _ hs hown2 ⟨W.heap.size, 0, none⟩ 1 1 [.int .u8 (f k : Nat)] hx rfl ?_ ?_ (by unfold maxLen; omega) (by omega) (Nat.le_trans hbase hB2.size) ?_
  · intro j u hj
    have h1 : j < 1 := (List.getElem?_eq_some_iff.1 hj).1
    obtain rfl : j = 0 := by omega
    rw [add_none, cell_of_block (last_block0 W (.cells #[.int .u8 (f k : Nat)] 5) _ rfl)]
    exact hj
  · intro u hu
    obtain rfl := List.mem_singleton.1 hu
    rfl
  · intro v' w' h1 h2 h3
    refine h v' w' ?_ (below_ownB hown2 hB2 hbase h2)
    unfold OwnB
    rw [← rowB_snoc]
    exact h1
theorem OwnB.below {w w' : World} {base n : Nat} {v : Value} {f : Nat → Nat} (h : OwnB w base v n f) (hb : Below w.heap.size w w') : OwnB w' base v n f := by
  refine ⟨h.1, ?_⟩
  rcases h.2 with h1 | ⟨g, cap, cur, hv, h2, hg, h3⟩
  · exact .inl h1
  · exact .inr ⟨g, cap, cur, hv, h2, (hb.block g (Array.getElem?_eq_some_iff.1 hg).1).trans hg, h3⟩
theorem xf_u8 (f g : Nat → Nat) (k : Nat) (hf : f k < 256) (hg : g k < 256) : bits .xor .u8 (f k : Nat) (g k : Nat) = ((xf f g k : Nat) : Int) := u8_xor_nat (f k) (g k) hf hg
attribute [local irreducible] xf
attribute [local irreducible] OwnB
set_option maxHeartbeats 1000000 in
theorem r_add (s t : Option Addr) (n m cs ct : Nat) (f g : Nat → Nat) (w : World) (hs : Pv w s n cs f) (ht : Pv w t m ct g) (hf : Bd f) (hg : Bd g) (hzf : Zr n f) (hzg : Zr m g) (hn : n ≤ 100000) (hm : m ≤ 100000) :
    Calls Try.prog 21 #[.slice s n cs, .slice t m ct] w (PolyPost w (max n m) (xf f g)) := by
  have hsh := Lib.hid hs
  have hth := Lib.hid ht
  have hfh := Lib.hid hf
  have hgh := Lib.hid hg
  have k1 := Lib.hid (fun (i : Int) W (h : By W s n f) h0 => r_at s n cs i f W h hzf h0 hn)
  have k2 := Lib.hid (fun (i : Int) W (h : By W t m g) h0 => r_at t m ct i g W h hzg h0 hm)
  clear hs ht hf hg hzf hzg
  go_enter Try.func21, Try.ntmps21
  go_wp2_with fail
  go_loopw [5, 6] (fun o v wr => ∃ k : Nat, k ≤ max n m ∧ v = .int .i64 k ∧ OwnB wr w.heap.size o k (xf f g) ∧ Below w.heap.size w wr) (fun _ v _ => max n m - (intOf v).toNat)
  case atStart => exact ⟨0, Nat.zero_le _, rfl, OwnB.nil _ _ _, Below.refl _ _⟩
  case round =>
    obtain ⟨k, hk, rfl, hown, hB⟩ := hrel
    by_cases hlt : k < max n m
    · have hd : decide (k < n) = true ∨ (decide (k < n) = false ∧ decide (k < m) = true) := by
        by_cases h : k < n
        · exact .inl (decide_eq_true h)
        · exact .inr ⟨decide_eq_false h, decide_eq_true (by omega)⟩
      have c1 := Lib.hid (k1.out k wr (hsh.out.below hB).rd (by omega))
      have c2 := Lib.hid (k2.out k wr (hth.out.below hB).rd (by omega))
      rw [Int.toNat_natCast] at c1 c2
      have hu := xf_u8 f g k (hfh.out k) (hgh.out k)
      have hownh := Lib.hid hown
      have hBh := Lib.hid hB
      clear hown hB
      rcases hd with hd | ⟨hd, hd2⟩
      all_goals
        go_wp2_with fail
        refine c1.out.mono ?_
        rintro e w' ⟨rfl, rfl⟩
        go_wp2_with fail
        refine c2.out.mono ?_
        rintro e w' ⟨rfl, rfl⟩
        go_wp2_with (at_builtin; refine wpList_snocB rfl (.tmp 19) (.tmp 27) rfl w wr _ w.heap.size k (xf f g) rfl rfl rfl hownh.out (by omega) hBh.out (Nat.le_refl _) ?_; intro v' w' ho hb')
        go_roundw
        case rel => exact ⟨k + 1, by omega, by go_num, ho, hb'⟩
        case measure => simp [intOf]; omega
    · have hd : decide (k < n) = false := decide_eq_false (by omega)
      have hd2 : decide (k < m) = false := decide_eq_false (by omega)
      have hkm : k = max n m := by omega
      obtain ⟨so, co, rfl, hpv⟩ := hown.pv
      have hpvh := Lib.hid hpv
      have hkmh := Lib.hid hkm
      clear hkm hpv hown
      go_wp2_with fail
      go_ret
      rw [← hkmh.out]
      exact ⟨so, co, rfl, hpvh.out, hB⟩
theorem cvs_zero (f g : Nat → Nat) (k : Nat) : cvs f g k 0 = 0 := by unfold cvs; rfl
theorem cvs_next (f g : Nat → Nat) (k i : Nat) (h : i ≤ k) : cvs f g k (i + 1) = cvs f g k i ^^^ rmul (f i) (g (k - i)) := by rw [cvs, if_pos h]
set_option maxHeartbeats 2000000 in
theorem r_mul4 (s t : Option Addr) (n m cs ct : Nat) (f g : Nat → Nat) (w : World) (hs : Pv w s n cs f) (ht : Pv w t m ct g) (hf : Bd f) (hg : Bd g) (hzf : Zr n f) (hzg : Zr m g) (hn : n ≤ 100000) (hm : m ≤ 100000) :
    Calls Try.prog 22 #[.slice s n cs, .slice t m ct] w (PolyPost w (n + m) (cv f g)) := by
  have hsh := Lib.hid hs
  have hth := Lib.hid ht
  have hfh := Lib.hid hf
  have hgh := Lib.hid hg
  have hclt := Lib.hid (fun k i => cvs_lt f g k i)
  have hc0 := Lib.hid (fun k => cvs_zero f g k)
  have hcn := Lib.hid (fun k i h => cvs_next f g k i h)
  have hca := Lib.hid (fun k => cvs_all f g k n hzf)
  have hcb := Lib.hid (fun k i h => cvs_big f g k i h)
  have k2 := Lib.hid (fun (i : Int) W (h : By W t m g) h0 => r_at t m ct i g W h hzg h0 hm)
  clear hs ht hf hg hzf hzg
  go_enter Try.func22, Try.ntmps22
  go_wp2_with fail
  go_loopw [5, 6] (fun o v wr => ∃ k : Nat, k ≤ n + m ∧ v = .int .i64 k ∧ OwnB wr w.heap.size o k (cv f g) ∧ Below w.heap.size w wr) (fun _ v _ => n + m - (intOf v).toNat)
  case atStart => exact ⟨0, Nat.zero_le _, rfl, OwnB.nil _ _ _, Below.refl _ _⟩
  case round =>
    obtain ⟨k, hk, rfl, hown, hB⟩ := hrel
    by_cases hlt : k < n + m
    · have hownh := Lib.hid hown
      have hBh := Lib.hid hB
      have i0 : (k : Int) < (n : Int) + (m : Int) := by omega
      clear hown hB
      have hcu := Lib.hid (fun j (h : j ≤ k) => show bits .xor .u8 (cvs f g k j : Nat) (rmul (f j) (g (k - j)) : Nat) = ((cvs f g k (j + 1) : Nat) : Int) from by rw [hcn.out k j h]; exact u8_xor_nat _ _ (hclt.out k j) (rmul_lt _ _))
      go_upto_region 7 with (fail)
      obtain ⟨wo, hwo⟩ : ∃ wo : World, wo = wr := ⟨_, rfl⟩
      go_loopw [7, 8] (fun c v wi => ∃ j : Nat, j ≤ k + 1 ∧ j ≤ n ∧ v = .int .i64 j ∧ c = .int .u8 (cvs f g k j : Nat) ∧ OwnB wi w.heap.size u5 k (cv f g) ∧ Below w.heap.size w wi) (fun _ v _ => n - (intOf v).toNat)
      case atStart => exact ⟨0, Nat.zero_le _, Nat.zero_le _, rfl, by rw [hc0.out k]; rfl, hownh.out, hBh.out⟩
      case round =>
        obtain ⟨j, hj, hjn, rfl, rfl, hown, hB⟩ := hrel
        clear hownh hBh
        by_cases hjk : j ≤ k
        · by_cases hjl : j < n
          · obtain ⟨b, off, rfl, hc⟩ := hsh.out.rd j hjl
            have hcb2 : b < w.heap.size := cell_block_lt hc
            have i1 : (j : Int) < (n : Int) := by omega
            have d1 : decide (j ≤ k) = true := decide_eq_true hjk
            have d2 : decide (j < n) = true := decide_eq_true hjl
            have hw : IntKind.i64.wrap ((k : Int) - (j : Int)) = (k : Int) - (j : Int) := IntWalk.i64_in _ (by omega)
            have hin := Lib.hid (fun (x : World) (ho : OwnB x w.heap.size u5 k (cv f g)) (hb : Below w.heap.size w x) => (⟨(hb.cell (p := ⟨b, off + j, none⟩) hcb2).trans hc, (hth.out.below hb).rd, ho, hb⟩ : x.cell? ⟨b, off + j, none⟩ = some (.int .u8 (f j : Nat)) ∧ By x t m g ∧ OwnB x w.heap.size u5 k (cv f g) ∧ Below w.heap.size w x))
            have hu := hcu.out j hjk
            have kat := Lib.hid (fun (x : World) (h : x.cell? ⟨b, off + j, none⟩ = some (.int .u8 (f j : Nat)) ∧ By x t m g ∧ OwnB x w.heap.size u5 k (cv f g) ∧ Below w.heap.size w x) => ret_same (k2.out ((k : Int) - (j : Int)) x h.2.1 (by omega)))
            rw [show ((k : Int) - (j : Int)).toNat = k - j by omega] at kat
            have hfj := hfh.out j
            have hgj := hgh.out (k - j)
            have kmul := Lib.hid (fun (x : World) => ret_same (ref_mul (f j) (g (k - j)) x hfj hgj))
            clear hc
            generalize f j = y at *
            generalize g (k - j) = z at *
            have hclh := Lib.hid (fun (x x' : World) (h : x.cell? ⟨b, off + j, none⟩ = some (.int .u8 (y : Nat)) ∧ By x t m g ∧ OwnB x w.heap.size u5 k (cv f g) ∧ Below w.heap.size w x) (hb : Below x.heap.size x x') => hin.out x' (h.2.2.1.below hb) (below_step h.2.2.2 h.2.2.2.size hb))
            have hst := Lib.hid (hin.out wr.drew (hown.below (below_drewN (Below.refl _ _) 1)) (below_drewN hB 1))
            clear hown hB
            go_upto_region 9 with (fail)
            refine wp_region_quiet (C := fun x => x.cell? ⟨b, off + j, none⟩ = some (.int .u8 (y : Nat)) ∧ By x t m g ∧ OwnB x w.heap.size u5 k (cv f g) ∧ Below w.heap.size w x) (by kernel_rfl) (by kernel_rfl) hst.out ?_
            repeat (first
              | (refine q_run (v := ?_) ?_ ?_ ?_
                 rotate_left
                 · rfl
                 · (intro x hSx; (try dsimp only at hSx); go_simp <;> with_reducible rfl)
                 simp only [Act.put, List.setIfInBounds_toArray, List.set_cons_zero, List.set_cons_succ])
              | (refine q_skip ?_ ?_
                 · rfl
                 simp only [Act.put, List.setIfInBounds_toArray, List.set_cons_zero, List.set_cons_succ])
              | (refine q_call (fun x hCx => kat.out x hCx) hclh.out ?_ ?_ ?_
                 · rfl
                 · (intro x hSx; (try dsimp only at hSx); go_simp <;> with_reducible rfl)
                 simp only [Act.put, List.setIfInBounds_toArray, List.set_cons_zero, List.set_cons_succ])
              | (refine q_call (fun x _ => kmul.out x) hclh.out ?_ ?_ ?_
                 · rfl
                 · (intro x hSx; (try dsimp only at hSx); go_simp <;> with_reducible rfl)
                 simp only [Act.put, List.setIfInBounds_toArray, List.set_cons_zero, List.set_cons_succ]))
            refine wpQuiet_nil ?_
            intro x hSx
            have hfin := Lib.hid hSx.2.2
            clear hSx hin hclh kmul kat hst
            go_wp2_with fail
            go_roundw
            case rel => exact ⟨j + 1, by omega, by omega, by go_num, rfl, hfin.out.1, hfin.out.2⟩
            case measure => simp [intOf]; omega
          · obtain rfl : j = n := by omega
            have d2 : decide (j < j) = false := decide_eq_false (by omega)
            have hfin := Lib.hid (hca.out k)
            rw [hfin.out]
            have hownh := Lib.hid hown
            have hBh := Lib.hid hB
            clear hown hB
            go_wp2_with (at_builtin; refine wpList_snocB rfl (.tmp 41) (.tmp 43) rfl w wr _ w.heap.size k (cv f g) rfl rfl rfl hownh.out (by omega) hBh.out (Nat.le_refl _) ?_; intro v' w' ho hb')
            go_roundw
            case rel => exact ⟨k + 1, by omega, by go_num, ho, hb'⟩
            case measure => simp [intOf]; omega
        · obtain rfl : j = k + 1 := by omega
          have d1 : decide (k + 1 ≤ k) = false := decide_eq_false (by omega)
          have hfin := Lib.hid (hcb.out k (k + 1) (Nat.le_refl _))
          rw [hfin.out]
          have hownh := Lib.hid hown
          have hBh := Lib.hid hB
          clear hown hB
          go_wp2_with (at_builtin; refine wpList_snocB rfl (.tmp 41) (.tmp 43) rfl w wr _ w.heap.size k (cv f g) rfl rfl rfl hownh.out (by omega) hBh.out (Nat.le_refl _) ?_; intro v' w' ho hb')
          go_roundw
          case rel => exact ⟨k + 1, by omega, by go_num, ho, hb'⟩
          case measure => simp [intOf]; omega
    · have hkm : k = n + m := by omega
      obtain ⟨so, co, rfl, hpv⟩ := hown.pv
      have hpvh := Lib.hid hpv
      have hkmh := Lib.hid hkm
      clear hkm hpv hown
      go_wp2_with fail
      go_ret
      rw [← hkmh.out]
      exact ⟨so, co, rfl, hpvh.out, hB⟩
end Go.Proofs.Ytmdpbacjcidpgaa

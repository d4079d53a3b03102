/- The contract of the document's Share of layer 12. Conditions: the slice reads as the list, it may be parted. -/
import Derived.Test.YtchpiiccdoejdaaShare3
import Derived.Laws.AppendOwnNone
namespace Go.Proofs.Ytchpiiccdoejdaa
open Go.RowKit
theorem own_openZ {w : World} {base n : Nat} {v : Value} {xs : List Value} (h : w.ownsRow base 3 1 v n xs) (hne : 0 < n) : ∃ g cap, v = .slice (some ⟨g, 0, none⟩) n cap ∧ base ≤ g ∧ g < w.heap.size := by
  rcases h.2 with ⟨_, h1⟩ | ⟨g, cap, cur, hv, hb, hg, _⟩
  · omega
  · exact ⟨g, cap, hv, hb, (Array.getElem?_eq_some_iff.1 hg).1⟩
theorem below_own {w0 a b : World} {base n : Nat} {v : Value} {xs : List Value} (h : a.ownsRow base 3 1 v n xs) (hb : Below base w0 a) (hB : base ≤ w0.heap.size) (hg : a.grownBy b v.ownBlock) : Below base w0 b := by
  have hsz := hb.size
  refine ⟨hg.os.trans hb.os, hg.tape.trans hb.tape, hg.output.trans hb.output, Nat.le_trans hb.size hg.size, fun i hi => ?_⟩
  rw [hg.block i (by omega) (fun e => by have := (h.lt i e.symm).1; omega)]
  exact hb.block i hi
theorem mkL_succ (n : Nat) (h : Nat → Int) : rowZ (mkL n h) ++ [.int .i64 (h n)] = rowZ (mkL (n + 1) h) := by
  unfold rowZ mkL
  rw [List.range_succ]
  simp
theorem mkL_none (h : Nat → Int) : rowZ (mkL 0 h) = [] := by unfold rowZ mkL; rfl
theorem ltK_dead (R S : Int) (f : Nat → Int) (n k : Nat) (h : ltK R S f n k ≤ 0) : ltK R S f n (k + 1) = 0 := by
  have hm := ctF_mono f k (k + 1) (by omega)
  unfold ltK at *
  split at h
  · split <;> omega
  · split <;> omega
theorem shT_dead (R S : Int) (f : Nat → Int) (n k : Nat) (h : ltK R S f n k ≤ 0) : mkL n (shT R S f n k) = mkL n (shT R S f n (k + 1)) := by
  rw [shT_end R S f n k h, shT_end R S f n (k + 1) (by rw [ltK_dead R S f n k h]; omega)]
theorem news_one (W : World) (T : TypeId) (x : Value) (j : Nat) (u : Value) (h : ([x] : List Value)[j]? = some u) : (W.alloc (.cells #[x] T)).cell? ((⟨W.heap.size, 0, none⟩ : Addr).add j) = some u := by
  have h1 : j < 1 := (List.getElem?_eq_some_iff.1 h).1
  obtain rfl : j = 0 := by omega
  rw [add_none, cell_of_block (last_block0 W (.cells #[x] T) _ rfl)]
  exact h
theorem one_int (x : Int) (u : Value) (h : u ∈ ([.int .i64 x] : List Value)) : u.oneCell' = true := by
  obtain rfl := List.mem_singleton.1 h
  rfl
attribute [local irreducible] smF ctF shB shL shV ltK mkL shT shR rowZ gZ
def RShPost (W : World) (l : List Int) (e : Ending) (W' : World) : Prop := ∃ g cap, W.heap.size ≤ g ∧ e = .returned (.slice (some ⟨g, 0, none⟩) l.length cap) ∧ W'.ownsRow W.heap.size 3 1 (.slice (some ⟨g, 0, none⟩) l.length cap) l.length (rowZ l) ∧ Below W.heap.size W W'
set_option maxHeartbeats 4000000 in
theorem r_share (R : Int) (a : Option Addr) (cap : Nat) (l : List Int) (w : World) (hs : SlZ .i64 w a l) (ok : shOk R (gZ l) l.length) :
    Calls Try.prog 9 #[.int .i64 R, .slice a l.length cap] w (RShPost w (mkL l.length (shV R (smF (gZ l) l.length) (gZ l) l.length))) := by
  obtain ⟨hR, hR1, hn, hl, hS0⟩ := ok
  have hsh := hide hs
  have hlh := hide hl
  have hbd := fun k hk => smF_bd (gZ l) l.length hl k hk
  have hbdh := hide hbd
  have hSb := hbd l.length (Nat.le_refl _)
  have hS : 0 < smF (gZ l) l.length := by omega
  have hl0 : ∀ i, i < l.length → 0 ≤ gZ l i := fun i hi => (hl i hi).1
  have hle := smB_le R (gZ l) l.length hR hS hl0
  have hleh := hide hle
  have hL := shL_bd R (gZ l) l.length hR hS hl0
  have hL1 := (hle l.length (Nat.le_refl _)).1
  have hLh := hide hL
  have hLR : shL R (smF (gZ l) l.length) (gZ l) l.length ≤ R := by unfold shL; omega
  have hLe : Hid (R - smF (shB R (smF (gZ l) l.length) (gZ l)) l.length = shL R (smF (gZ l) l.length) (gZ l) l.length) := hide (by unfold shL; rfl)
  have hn0 : 0 < l.length := by
    rcases Nat.eq_zero_or_pos l.length with h | h
    · exfalso; rw [h, smF_zero] at hS; omega
    · exact h
  obtain ⟨hL2, hL3⟩ := hL
  have hSb2 := hSb.2
  obtain ⟨i0, hi, hz0, hz1, hz2⟩ := info_parts infoZ
  have hih := Lib.hid (And.intro hi (And.intro hz0 (And.intro hz1 hz2)))
  clear hs hl hbd hl0 hle hL3 hL1 hS0 hSb hi hz0 hz1 hz2
  go_enter Try.func9, Try.ntmps9
  go_wp2_with fail
  go_loop [5, 6] (fun v i => ∃ k : Nat, k ≤ l.length ∧ i = .int .i64 k ∧ v = .int .i64 (smF (gZ l) k)) (fun _ i => l.length - (intOf i).toNat)
  case atStart => exact ⟨0, by omega, rfl, by rw [smF_zero]⟩
  case round =>
    obtain ⟨k, hk, rfl, rfl⟩ := hrel
    by_cases hlt : k < l.length
    · obtain ⟨x, hx⟩ : ∃ x, l[k]? = some x := ⟨_, List.getElem?_eq_getElem hlt⟩
      obtain ⟨b, off, rfl, hc⟩ := hsh.out k x hx
      have hgk := gZ_of hx
      have hb2 := hlh.out k hlt
      have he := smF_succ (gZ l) k
      have hb3 := hbdh.out k hk
      rw [hgk] at hb2 he
      obtain ⟨q0, q1⟩ := hb2
      obtain ⟨q2, q3⟩ := hb3
      have heh := Lib.hid he
      clear hx hgk he
      go_wp2_with fail
      go_round
      case rel => exact ⟨k + 1, by omega, by go_num, by rw [heh.out]⟩
      case measure => simp [intOf]; omega
    · obtain rfl : k = l.length := by omega
      generalize hSS : smF (gZ l) l.length = S at *
      have hS0 : (S == 0) = false := by simp; omega
      go_wp2_with fail
      generalize hnn : l.length = n at *
      go_loopw [7, 8, 9] (fun o v i wr => ∃ (k : Nat), k ≤ n ∧ i = .int .i64 k ∧ v = .int .i64 (R - smF (shB R S (gZ l)) k) ∧ wr.ownsRow w.heap.size 3 1 o k (rowZ (mkL k (shB R S (gZ l)))) ∧ Below w.heap.size w wr) (fun _ _ i _ => n - (intOf i).toNat)
      case atStart => exact ⟨0, by omega, rfl, by rw [smF_zero, Int.sub_zero], by rw [mkL_none]; exact World.ownsRow_nil _ _ _ _, Below.refl _ _⟩
      case round =>
        obtain ⟨k, hk, rfl, rfl, hown, hbel⟩ := hrel
        by_cases hlt : k < n
        · obtain ⟨x, hx⟩ : ∃ x, l[k]? = some x := ⟨_, List.getElem?_eq_getElem (by omega)⟩
          obtain ⟨b, off, rfl, hc⟩ := (hsh.out.below hbel) k x hx
          have hgk := gZ_of hx
          have hb2 := hlh.out k hlt
          rw [hgk] at hb2
          obtain ⟨q0, q1⟩ := hb2
          obtain ⟨d0, d1, d2, d3, d4⟩ := shB_tdiv R S (gZ l) k hR hR1 (by rw [hgk]; exact q0) (by rw [hgk]; exact q1) (by omega)
          rw [hgk] at d0 d1 d2
          have he := smF_succ (shB R S (gZ l)) k
          obtain ⟨e0, e1⟩ := hleh.out k hk
          obtain ⟨e2, e3⟩ := hleh.out (k + 1) (by omega)
          rw [he] at e2 e3
          have heh := Lib.hid he
          have hsucc := Lib.hid (mkL_succ k (shB R S (gZ l)))
          have hownh := hide hown
          have hsz := hbel.size
          have i1 : (k : Int) < (n : Int) := by omega
          clear hx hgk he hown
          have hsz2 : w.heap.size ≤ (wr.alloc (.cells #[.int .i64 (shB R S (gZ l) k)] 3)).heap.size := (hbel.alloc hsz _).size
          have hbel2 := Lib.hid (hbel.alloc hsz (.cells #[.int .i64 (shB R S (gZ l) k)] 3))
          have hown2 := hide (hownh.out.alloc (.cells #[.int .i64 (shB R S (gZ l) k)] 3))
          have hne := Lib.hid (news_one wr 3 (.int .i64 (shB R S (gZ l) k)))
          have h63 : k + 1 ≤ maxLen := by unfold maxLen; omega
          go_upto_region 13 with (refine wpList_append_own _ rfl (.tmp 39) (.tmp 41) 22 rfl w.heap.size 3 i0 (.int .i64 0) 1 8 Try.underlying22 hih.out.1 hih.out.2.1 hih.out.2.2.1 hih.out.2.2.2 rfl (by decide) _ k _ rfl hown2.out ⟨wr.heap.size, 0, none⟩ 1 1 [.int .i64 (shB R S (gZ l) k)] rfl rfl hne.out (one_int _) h63 (by omega) hsz2 ?_; intro V' w' h1 h2 h3)
          have hb3 := Lib.hid (below_own hown2.out hbel2.out (Nat.le_refl _) h2)
          rw [hsucc.out] at h1
          have h1h := hide h1
          clear h1 h2 h3 hown2 hbel2 hsz2 hne hownh
          go_wp2_with fail
          go_roundw
          case rel => exact ⟨k + 1, by omega, by go_num, by rw [heh.out, Int.sub_sub], h1h.out, hb3.out⟩
          case measure => simp [intOf]; omega
        · obtain rfl : k = n := by omega
          rw [hLe.out]
          obtain ⟨hL4, hL3⟩ := hLh.out
          obtain ⟨g, cp, rfl, hg0, hg1⟩ := own_openZ hown hn0
          have hneh := Lib.hid (ltK_end R S (gZ l) k hL3)
          have hownh := hide hown
          have hl0h := Lib.hid (ltK_zero R S (gZ l) k hL2)
          have hlle := fun j => ltK_le R S (gZ l) k j hL2
          have hlleh := hide hlle
          clear hown hlle hL4 hL3 hleh hbdh hLe hih
          generalize hLL : shL R S (gZ l) k = L at *
          clear hLh
          generalize hnn2 : k = n at *
          go_wp2_with fail
          go_loopw [8] (fun v wr => ∃ k : Nat, (k = 0 ∨ k = n) ∧ v = .int .i64 (ltK R S (gZ l) n k) ∧ wr.ownsRow w.heap.size 3 1 (.slice (some ⟨g, 0, none⟩) n cp) n (rowZ (mkL n (shT R S (gZ l) n k))) ∧ Below w.heap.size w wr) (fun v _ => (intOf v).toNat)
          case atStart => exact ⟨0, .inl rfl, by rw [hl0h.out], by rw [shT_zero]; exact hownh.out, hbel⟩
          case round =>
            obtain ⟨k, hk, rfl, hown, hbel⟩ := hrel
            have hk0 := ltK_nonneg R S (gZ l) n k
            have hkL := hlleh.out k
            by_cases hpos : 0 < ltK R S (gZ l) n k
            · have hkz : k = 0 := by
                rcases hk with h | h
                · exact h
                · exfalso; rw [h, hneh.out] at hpos; omega
              subst hkz
              have hpos0 : (decide (ltK R S (gZ l) n 0 > 0)) = true := decide_eq_true hpos
              have hownh2 := hide hown
              have hposh := Lib.hid hpos
              clear hown
              go_upto_region 16 with (fail)
              go_wp2_with fail
              go_loopw [8, 11] (fun v i wr => ∃ k : Nat, k ≤ n ∧ i = .int .i64 k ∧ v = .int .i64 (ltK R S (gZ l) n k) ∧ wr.ownsRow w.heap.size 3 1 (.slice (some ⟨g, 0, none⟩) n cp) n (rowZ (mkL n (shT R S (gZ l) n k))) ∧ Below w.heap.size w wr) (fun _ i _ => n - (intOf i).toNat)
              case atStart => exact ⟨0, by omega, rfl, rfl, hownh2.out, hbel⟩
              case round =>
                clear hpos0 hpos hk0 hkL hownh2
                obtain ⟨k, hk, rfl, rfl, hown, hbel⟩ := hrel
                have hk0 := ltK_nonneg R S (gZ l) n k
                have hkL := hlleh.out k
                by_cases hlt : k < n
                · obtain ⟨x, hx⟩ : ∃ x, l[k]? = some x := ⟨_, List.getElem?_eq_getElem (by omega)⟩
                  obtain ⟨b, off, rfl, hc⟩ := (hsh.out.below hbel) k x hx
                  have hgk := gZ_of hx
                  have hb2 := hlh.out k hlt
                  obtain ⟨d0, d1, d2, d3, d4⟩ := shB_tdiv R S (gZ l) k hR hR1 hb2.1 hb2.2 (by omega)
                  clear d0 d1 d2
                  have hgr := mkL_get n (shT R S (gZ l) n k) k hlt
                  have hcy : wr.cell? ⟨g, k, none⟩ = some (.int .i64 (shB R S (gZ l) k)) := by
                    rw [hown.cellAt k (by omega), rowZ_get, hgr]
                    unfold shT
                    rw [if_neg (Nat.lt_irrefl k)]
                    rfl
                  have hfy := hown.frozenAt k
                  have i1 : (k : Int) < (n : Int) := by omega
                  by_cases hx0 : 0 < x
                  · have hx00 : (decide (x > 0)) = true := decide_eq_true hx0
                    by_cases hp : 0 < ltK R S (gZ l) n k
                    · have hp0 : (decide (ltK R S (gZ l) n k > 0)) = true := decide_eq_true hp
                      have hnx := Lib.hid (shT_some R S (gZ l) n k hp (by rw [hgk]; exact hx0))
                      have hnl := Lib.hid (ltK_some R S (gZ l) n k hp (by rw [hgk]; exact hx0))
                      have hownh := hide hown
                      clear hx hgk hgr hown hb2
                      go_wp2_with fail
                      go_roundw
                      case rel =>
                        refine ⟨k + 1, hlt, by go_num, by rw [hnl.out], ?_, hbel.setCell hg0 _⟩
                        rw [← hnx.out, ← rowZ_set]
                        exact (World.ownsRow.stored (w := wr) hownh.out k _).1
                      case measure => simp [intOf]; omega
                    · have hp0 : (decide (ltK R S (gZ l) n k > 0)) = false := decide_eq_false hp
                      have hnx := Lib.hid (shT_dead R S (gZ l) n k (by omega))
                      have hnl := Lib.hid (ltK_dead R S (gZ l) n k (by omega))
                      have hz := Lib.hid (show ltK R S (gZ l) n k = 0 by omega)
                      have hownh := hide hown
                      clear hx hgk hgr hown hb2
                      go_wp2_with fail
                      go_roundw
                      case rel => exact ⟨k + 1, hlt, by go_num, by rw [hnl.out, hz.out], by rw [← hnx.out]; exact hownh.out, hbel⟩
                      case measure => simp [intOf]; omega
                  · have hx00 : (decide (x > 0)) = false := decide_eq_false hx0
                    have hnx := Lib.hid (shT_none R S (gZ l) n k (by rw [hgk]; exact hx0))
                    have hnl := Lib.hid (ltK_none R S (gZ l) n k (by rw [hgk]; exact hx0))
                    have hownh := hide hown
                    clear hx hgk hgr hown hb2
                    go_wp2_with fail
                    go_roundw
                    case rel => exact ⟨k + 1, hlt, by go_num, by rw [hnl.out], by rw [← hnx.out]; exact hownh.out, hbel⟩
                    case measure => simp [intOf]; omega
                · have hkn : k = n := by omega
                  rw [hkn] at hown ⊢
                  have hownh := hide hown
                  clear hown
                  have i1 : ¬ (n : Int) < (n : Int) := by omega
                  go_wp2_with fail
                  go_roundw
                  case rel => exact ⟨n, .inr rfl, rfl, hownh.out, hbel⟩
                  case measure => rw [hneh.out]; have := hposh.out; simp [intOf]; omega
            · have hpos0 : (decide (ltK R S (gZ l) n k > 0)) = false := decide_eq_false hpos
              rw [shT_end R S (gZ l) n k (by omega)] at hown
              have hownh := hide hown
              clear hown
              go_wp2_with fail
              go_ret
              exact ⟨g, cp, hg0, by rw [mkL_length]; rfl, by rw [mkL_length]; exact hownh.out, hbel⟩
end Go.Proofs.Ytchpiiccdoejdaa

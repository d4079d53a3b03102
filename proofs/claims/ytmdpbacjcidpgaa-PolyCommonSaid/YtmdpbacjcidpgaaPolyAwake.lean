/- The law's awake and short of layer 4. -/
import Derived.Test.YtmdpbacjcidpgaaThru
namespace Go.Proofs.Ytmdpbacjcidpgaa
open Go.RowKit
def awX (i : Nat) : Nat := if i = 0 then 1 else 2
def awY (_ : Nat) : Nat := 5
theorem aw_lg : td (lgF awX awY 2 2) 2 = 1 ∧ lgF awX awY 2 2 0 = 5 := by decide +kernel
theorem aw_cv : td (cv (linF 1) (linF 1)) 4 = 3 ∧ cv (linF 1) (linF 1) 0 = 1 ∧ cv (linF 1) (linF 1) 1 = 0 ∧ cv (linF 1) (linF 1) 2 = 1 := by decide +kernel
theorem aw_td1 (f : Nat → Nat) (h : f 0 = 5) : td f 1 = 1 := by simp [td, h]
theorem aw_td3 (f : Nat → Nat) (h : f 2 = 1) : td f 3 = 3 := by simp [td, h]
theorem alloc_size (w : World) (o : Obj) : (w.alloc o).heap.size = w.heap.size + 1 := by show (w.heap.push o).size = _; rw [Array.size_push]
theorem row_lit (w : World) (C : Array Value) (n : Nat) (f : Nat → Nat) (hs : n ≤ C.size) (h : ∀ i, i < n → C[i]? = some (.int .u8 (f i : Nat))) : BRow (w.alloc (.cells C 5)) w.heap.size n f := ⟨C, last_block0 w _ _ rfl, hs, h⟩
attribute [local irreducible] gexp gtbl glog rmul rinv rpow zexp
attribute [local irreducible] td cvs cv mixF xf OwnB lbF prF lgF linF oneF fcN
set_option maxRecDepth 100000 in
set_option maxHeartbeats 2000000 in
theorem po_awake (w : World) : Calls Try.prog 8 #[] w (Ret w (.bool true)) := by
  go_enter Try.func8, Try.ntmps8
  go_wp2_with fail
  refine (gf_new w).mono ?_
  rintro e w1 ⟨rfl, n, hw1⟩
  have hg1 : IsGf w1 w.heap.size := by rw [hw1]; exact IsGf.made w n
  have hb1 : Below w.heap.size w w1 := by rw [hw1]; exact below_drewN ((Below.refl _ _).alloc (Nat.le_refl _) _) _
  clear hw1
  have hs1 := hb1.size
  have hpt : PtsAt (w1.alloc (.cells #[.int .u8 1, .int .u8 5, .int .u8 2, .int .u8 5] 31)) (some ⟨w1.heap.size, 0, none⟩) 2 awX awY := by
    have hb := last_block0 w1 (.cells #[.int .u8 1, .int .u8 5, .int .u8 2, .int .u8 5] 31) _ rfl
    intro i hi
    refine ⟨_, _, rfl, ?_, ?_⟩
    · rw [cell_of_block hb]
      have : i = 0 ∨ i = 1 := by omega
      rcases this with rfl | rfl <;> rfl
    · rw [cell_of_block hb]
      have : i = 0 ∨ i = 1 := by omega
      rcases this with rfl | rfl <;> rfl
  have hgl := hg1.lt
  have kt := Lib.hid (p_through w.heap.size (some ⟨w1.heap.size, 0, none⟩) 2 2 awX awY _ (hg1.alloc _) hpt (fun k => by unfold awX; split <;> omega) (fun k => by unfold awY; omega) (by omega) (fun a b ha hb hne => by unfold awX; split <;> split <;> omega))
  rw [aw_lg.1] at kt
  have f0 := aw_lg.2
  generalize lgF awX awY 2 2 = F at *
  have hb1a := Lib.hid (hb1.alloc hs1 (.cells #[.int .u8 1, .int .u8 5, .int .u8 2, .int .u8 5] 31))
  have hg1a := Lib.hid (hg1.alloc (.cells #[.int .u8 1, .int .u8 5, .int .u8 2, .int .u8 5] 31))
  clear hg1 hb1 hpt
  go_wp2_with fail
  refine kt.out.mono ?_
  rintro e w2 ⟨g2, c2, rfl, q1, q2, q3, q4, q5⟩
  have hb2 := hb1a.out.trans (q5.mono hb1a.out.size)
  have hg2 := hg1a.out.below q5 hg1a.out.lt
  clear kt q5 hb1a hg1a
  -- the first comparison
  have r5 := row_lit w2 #[.int .u8 5] 1 F (by simp) (fun i hi => by
    obtain rfl : i = 0 := by omega
    rw [f0]; rfl)
  have q3' : BRow (w2.alloc (.cells #[.int .u8 5] 5)) g2 1 F := FRow.alloc q3 _
  have k5 := Lib.hid (r_is (some ⟨g2, 0, none⟩) (some ⟨w2.heap.size, 0, none⟩) 1 1 c2 1 F _ (Pv.row q3' q1 q2) (Pv.row r5 (Nat.le_refl _) (by unfold maxLen; omega)) (aw_td1 F f0).symm (by omega) (by omega))
  have hb3 := Lib.hid (hb2.alloc hb2.size (.cells #[.int .u8 5] 5))
  have hg3 := Lib.hid (hg2.alloc (.cells #[.int .u8 5] 5))
  clear hb2 hg2 r5 q3' q3 q4 q1 q2
  go_wp2_with fail
  refine k5.out.mono ?_
  rintro e w4 ⟨rfl, z5⟩
  have hb4 := hb3.out.trans (z5.mono hb3.out.size)
  have hg4 := hg3.out.below z5 hg3.out.lt
  clear k5 z5 hb3 hg3
  have ra := row_lit w4 #[.int .u8 1, .int .u8 1] 2 (linF 1) (by simp) (fun i hi => by
    have : i = 0 ∨ i = 1 := by omega
    rcases this with rfl | rfl <;> (unfold linF; rfl))
  have ra' : BRow ((w4.alloc (.cells #[.int .u8 1, .int .u8 1] 5)).alloc (.cells #[.int .u8 1, .int .u8 1] 5)) w4.heap.size 2 (linF 1) := FRow.alloc ra _
  have rb := row_lit (w4.alloc (.cells #[.int .u8 1, .int .u8 1] 5)) #[.int .u8 1, .int .u8 1] 2 (linF 1) (by simp) (fun i hi => by
    have : i = 0 ∨ i = 1 := by omega
    rcases this with rfl | rfl <;> (unfold linF; rfl))
  rw [alloc_size] at rb
  have hb5 := (hb4.alloc hb4.size (.cells #[.int .u8 1, .int .u8 1] 5))
  have hb6 := Lib.hid (hb5.alloc hb5.size (.cells #[.int .u8 1, .int .u8 1] 5))
  have hg6 := Lib.hid ((hg4.alloc (.cells #[.int .u8 1, .int .u8 1] 5)).alloc (.cells #[.int .u8 1, .int .u8 1] 5))
  have km := Lib.hid (p_mul w.heap.size _ _ 2 2 2 2 (linF 1) (linF 1) _ hg6.out (Pv.row ra' (Nat.le_refl _) (by unfold maxLen; omega)) (Pv.row rb (Nat.le_refl _) (by unfold maxLen; omega)) (linF_bd 1 (by omega)) (linF_bd 1 (by omega)) (linF_zr 1) (linF_zr 1) (by omega) (by omega))
  obtain ⟨v0, v1, v2, v3⟩ := aw_cv
  rw [v0] at km
  generalize cv (linF 1) (linF 1) = G at *
  clear hb4 hg4 hb5 ra ra' rb v0
  go_wp2_with fail
  refine km.out.mono ?_
  rintro e w6 ⟨g6, c6, rfl, y1, y2, y3, y4, y5⟩
  have hb7 := hb6.out.trans (y5.mono hb6.out.size)
  clear km y5 hb6 hg6
  have rc := row_lit w6 #[.int .u8 1, .int .u8 0, .int .u8 1] 3 G (by simp) (fun i hi => by
    have : i = 0 ∨ i = 1 ∨ i = 2 := by omega
    rcases this with rfl | rfl | rfl
    · rw [v1]; rfl
    · rw [v2]; rfl
    · rw [v3]; rfl)
  have y4' : BRow (w6.alloc (.cells #[.int .u8 1, .int .u8 0, .int .u8 1] 5)) g6 3 G := FRow.alloc y4 _
  have k7 := Lib.hid (r_is (some ⟨g6, 0, none⟩) (some ⟨w6.heap.size, 0, none⟩) 3 3 c6 3 G _ (Pv.row y4' y2 y3) (Pv.row rc (Nat.le_refl _) (by unfold maxLen; omega)) (aw_td3 G v3).symm (by omega) (by omega))
  have hb8 := Lib.hid (hb7.alloc hb7.size (.cells #[.int .u8 1, .int .u8 0, .int .u8 1] 5))
  clear hb7 rc y4' y4 v1 v2 v3
  go_wp2_with fail
  refine k7.out.mono ?_
  rintro e w9 ⟨rfl, z9⟩
  have hb9 := Lib.hid (hb8.out.trans (z9.mono hb8.out.size))
  clear z9
  go_wp2_with fail
  go_ret
  exact ⟨rfl, hb9.out⟩
/-- what an argument that is a slice of bytes reads as -/
theorem pv_open {w : World} {a : Option Addr} {len cap : Nat} {zs : List Int} (h : IsRow .u8 w a len cap zs) : ∃ f, Pv w a len cap f ∧ Bd f ∧ Zr len f := by
  obtain ⟨l, hl, h1, h2, hb, hs⟩ := isRow_nat h 256 u8_bd
  refine ⟨fun i => l.getD i 0, ⟨fun i hi => ?_, fun e => ?_, by omega, h2⟩, fun i => ?_, fun i hi => ?_⟩
  · have hi2 : i < l.length := by omega
    obtain ⟨b, off, hsb, hc⟩ := hs i (l.getD i 0) (by rw [List.getD_eq_getElem?_getD, List.getElem?_eq_getElem hi2]; rfl)
    exact ⟨b, off, hsb, hc⟩
  · subst e; exact isRow_none h
  · show l.getD i 0 < 256
    by_cases hi : i < l.length
    · rw [List.getD_eq_getElem?_getD, List.getElem?_eq_getElem hi]; exact hb _ (List.getElem_mem _)
    · rw [List.getD_eq_getElem?_getD, List.getElem?_eq_none (by omega)]; exact (by decide : 0 < 256)
  · show l.getD i 0 = 0
    rw [List.getD_eq_getElem?_getD, List.getElem?_eq_none (by omega)]; rfl
theorem po_short_yes (s t : Option Addr) (n m cs ct : Nat) (w : World) (hn : n ≤ 60) (hm : m ≤ 60) :
    Calls Try.prog 13 #[.slice s n cs, .slice t m ct] w fun e w' => e = .returned (.bool true) ∧ w = w' := by
  have d1 : decide ((n : Int) ≤ 60) = true := decide_eq_true (by omega)
  have d2 : decide ((m : Int) ≤ 60) = true := decide_eq_true (by omega)
  go_enter Try.func13, Try.ntmps13
  go_wp2_with fail
  go_ret
  exact ⟨rfl, rfl⟩
theorem po_short_no (s t : Option Addr) (n m cs ct : Nat) (w : World) (h : 60 < n ∨ 60 < m) :
    Calls Try.prog 13 #[.slice s n cs, .slice t m ct] w fun e w' => e = .returned (.bool false) ∧ w = w' := by
  by_cases hn : n ≤ 60
  · have d1 : decide ((n : Int) ≤ 60) = true := decide_eq_true (by omega)
    have d2 : decide ((m : Int) ≤ 60) = false := decide_eq_false (by omega)
    go_enter Try.func13, Try.ntmps13
    go_wp2_with fail
    go_ret
    exact ⟨rfl, rfl⟩
  · have d1 : decide ((n : Int) ≤ 60) = false := decide_eq_false (by omega)
    go_enter Try.func13, Try.ntmps13
    go_wp2_with fail
    go_ret
    exact ⟨rfl, rfl⟩
end Go.Proofs.Ytmdpbacjcidpgaa

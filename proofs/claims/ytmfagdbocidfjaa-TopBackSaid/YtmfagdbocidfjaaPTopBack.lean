/- 'Rows.TopBackSaid': for every input that can be read the call returns true, and every argument reads behind the call as it read before. The row's step, over the walk of the module YtmfagdbocidfjaaWTopBack. Conditions: none. -/
import Derived.Test.YtmfagdbocidfjaaWTopBack
import Derived.JoinedCond
namespace Go.Proofs.Ytmfagdbocidfjaa.topBack
open Go.ChangeShapes Go.WideShapes Go.ChangeAt Go.RowKit
set_option linter.unusedVariables false

set_option maxRecDepth 100000 in
theorem flat22 : Flat Try.prog 22 [some .u32] := flat_int Try.underlying22
theorem flat3 : Flat Try.prog 3 [some .i64] := flat_int Try.underlying3
set_option maxRecDepth 100000 in
theorem flat24 : Flat Try.prog 24 [some .u32, some .i64, some .i64, some .i64] := by
  refine flat_struct Try.underlying24 (fun j k h => ?_)
  rcases j with _ | _ | _ | _ | j
  · exact ⟨0, _, [some .u32], 0, rfl, rfl, h, (by decide +kernel), flat22⟩
  · exact ⟨1, _, [some .i64], 0, rfl, rfl, h, (by decide +kernel), flat3⟩
  · exact ⟨2, _, [some .i64], 0, rfl, rfl, h, (by decide +kernel), flat3⟩
  · exact ⟨3, _, [some .i64], 0, rfl, rfl, h, (by decide +kernel), flat3⟩
  · simp at h
set_option maxRecDepth 100000 in
theorem flat4 : Flat Try.prog 4 [none] := flat_bool Try.underlying4
theorem flat34 : Flat Try.prog 34 [some .u16] := flat_int Try.underlying34
set_option maxRecDepth 100000 in
theorem flat36 : Flat Try.prog 36 [none, some .u16] := by
  refine flat_struct Try.underlying36 (fun j k h => ?_)
  rcases j with _ | _ | j
  · exact ⟨0, _, [none], 0, rfl, rfl, h, (by decide +kernel), flat4⟩
  · exact ⟨1, _, [some .u16], 0, rfl, rfl, h, (by decide +kernel), flat34⟩
  · simp at h
set_option maxRecDepth 100000 in
theorem own : ownKnob Try.prog.godebug = none := by kernel_rfl
theorem laidOut : laidOutB Try.prog = true := by kernel_rfl

set_option maxRecDepth 100000 in
theorem contract (H : Type) (enc : TypeId × Value → H) (W : World) (base : Nat) (args : Array Value) (ds gs : List (DataW H)) (before : List MemPlace)
    (hval : ∀ (j : Nat) t v, Try.f3.params[j]? = some t → args[j]? = some v → Value.okWide Try.prog W .any base t v)
    (hW : DataW.Whole enc Try.prog Try.f3.params.toList Rows.topBackSpec.vars false W args.toList ds gs before) :
    Calls Try.prog 3 args W fun e W' => ∃ v, e = .returned v ∧ Rows.topBackSpec.post enc Try.prog Try.f3 false true false false W args v W' := by
  have hW' := hW
  obtain ⟨p, q, hA0, hV, rfl, hfz, hnd⟩ := hW
  have hA : DataW.TrodAll enc Try.prog W 0 (fun _ => true) true Try.f3.params.toList args.toList ds p := hA0
  rw [Try.params3] at hA hval
  obtain ⟨v0, vs0, d0, ds0, p0, q0, hargs, rfl, rfl, h0, r0⟩ := trodAll_cons hA
  obtain ⟨v1, vs1, d1, ds1, p1, q1, rfl, rfl, rfl, h1, r1⟩ := trodAll_cons r0
  obtain ⟨rfl, rfl, rfl⟩ := trodAll_nil r1
  obtain rfl : args = #[v0, v1] := by cases args; simp_all
  obtain ⟨rfl, rfl⟩ := trodVars_none hV
  have k0 := h0
  have lt0 : ∀ x ∈ p0, x.block < W.heap.size := by obtain ⟨m, hm⟩ := k0; exact DataW.trod_lt m _ _ _ hm
  have k1 := h1
  have lt1 : ∀ x ∈ p1, x.block < W.heap.size := by obtain ⟨m, hm⟩ := k1; exact DataW.trod_lt m _ _ _ hm
  have w0 := isAgg_open (okWide_struct Try.underlying24 (hval 0 24 v0 rfl rfl)) flat24 (by kernel_rfl) h0
  obtain ⟨a1, len1, cap1, rfl⟩ := okWide_slice Try.underlying25 (hval 1 25 v1 rfl rfl)
  have w1 := isRec_open Try.underlying25 flat36 (by kernel_rfl) (by decide) h1
  clear hA0
  refine (topBack_walk v0 a1 len1 cap1 W w0 w1).mono fun e W' ⟨he, bel⟩ => ?_
  subst he
  exact ⟨_, rfl, _, _, _, [], _, [], hW', trodAll_mk1 (shut_bool Try.underlying4 _), (trodAll_cons_mk (Below.trod laidOut (by kernel_rfl) (of_decide_eq_true (by kernel_rfl)) k0 bel lt0) (trodAll_cons_mk (Below.trod laidOut (by kernel_rfl) (of_decide_eq_true (by kernel_rfl)) k1 bel lt1) trodAll_mk0)), rfl, bel.frame _, fun h => by cases h⟩

set_option maxRecDepth 100000 in
theorem lifted (os : Os) (started : os.Started) (H : Type) (enc : TypeId × Value → H) :
    ReturnsInHanded {} Try.checked os 3 .any (Rows.topBackSpec.pre6 enc Try.prog Try.f3 Rows.topBackRow.domain false) (Rows.topBackSpec.post enc Try.prog Try.f3 false true false false) := by
  refine returnsInHanded_of_change (C := Try.checked) own started (by kernel_rfl) Try.func3
    (ChangeSpec.witness6 (enc := enc) (C := Try.checked) false ⟨#[], #[.agg #[.int .u32 0, .int .i64 0, .int .i64 0, .int .i64 0], .slice none 0 0], []⟩ 8 (by kernel_rfl) (by kernel_rfl) (by kernel_rfl) (by kernel_rfl)) ?_
  intro W base args ds gs before hval hW _ _
  exact contract H enc W base args ds gs before hval hW

set_option maxRecDepth 100000 in
theorem over : Rows.topBackRow.holds Try.pinned (OpenSpec.ofChange Rows.topBackSpec) :=
  OpenClaim.holds_of_wide 3 Try.f3 rfl rfl rfl rfl rfl rfl rfl ⟨rfl, rfl, rfl, rfl, rfl⟩ rfl rfl rfl rfl rfl (by kernel_rfl) Try.func3 (by kernel_rfl)
    (of_decide_eq_true (by kernel_rfl)) (by unfold Func.isWrapper; first | (rw [if_pos (by decide +kernel)]; kernel_rfl) | (rw [if_neg (by decide +kernel)]; exact ⟨rfl, rfl⟩))
    (fun os started H enc _ => lifted os started H enc)

theorem proved : Rows.TopBackSaid := over
#print axioms proved
end Go.Proofs.Ytmfagdbocidfjaa.topBack


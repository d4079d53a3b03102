/- 'Rows.ShakeMeetsSaid': for every input that can be read the call returns true, and every argument reads behind the call as it read before. The row's step, over the walk of the module YtdpngimcmohmaaaWShakeMeets. Conditions: none. -/
import Derived.Test.YtdpngimcmohmaaaWShakeMeets
import Derived.JoinedCond
namespace Go.Proofs.Ytdpngimcmohmaaa.shakeMeets
open Go.ChangeShapes Go.WideShapes Go.ChangeAt Go.RowKit
set_option linter.unusedVariables false

set_option maxRecDepth 100000 in
theorem flatK3 : FlatK Try.prog 3 [.i .i64] := flatK_int Try.underlying3
theorem flatK22 : FlatK Try.prog 22 [.i .u32] := flatK_int Try.underlying22
set_option maxRecDepth 100000 in
theorem flatK32 : FlatK Try.prog 32 [.s] := flatK_slice Try.underlying32
theorem flatK34 : FlatK Try.prog 34 [.i .i64, .i .u32, .i .u32, .i .i64, .i .u32, .i .u32, .i .u32, .i .i64, .i .i64, .i .i64, .s] := by
  refine flatK_struct Try.underlying34 (fun j k h => ?_)
  rcases j with _ | _ | _ | _ | _ | _ | _ | _ | _ | _ | _ | j
  · exact ⟨0, _, [.i .i64], 0, rfl, rfl, h, (by decide +kernel), flatK3⟩
  · exact ⟨1, _, [.i .u32], 0, rfl, rfl, h, (by decide +kernel), flatK22⟩
  · exact ⟨2, _, [.i .u32], 0, rfl, rfl, h, (by decide +kernel), flatK22⟩
  · exact ⟨3, _, [.i .i64], 0, rfl, rfl, h, (by decide +kernel), flatK3⟩
  · exact ⟨4, _, [.i .u32], 0, rfl, rfl, h, (by decide +kernel), flatK22⟩
  · exact ⟨5, _, [.i .u32], 0, rfl, rfl, h, (by decide +kernel), flatK22⟩
  · exact ⟨6, _, [.i .u32], 0, rfl, rfl, h, (by decide +kernel), flatK22⟩
  · exact ⟨7, _, [.i .i64], 0, rfl, rfl, h, (by decide +kernel), flatK3⟩
  · exact ⟨8, _, [.i .i64], 0, rfl, rfl, h, (by decide +kernel), flatK3⟩
  · exact ⟨9, _, [.i .i64], 0, rfl, rfl, h, (by decide +kernel), flatK3⟩
  · exact ⟨10, _, [.s], 0, rfl, rfl, h, (by decide +kernel), flatK32⟩
  · simp at h
set_option maxRecDepth 100000 in
theorem flatK39 : FlatK Try.prog 39 [.i .i64, .i .i64, .i .u32, .i .u32, .i .i64, .i .u32, .i .u32, .i .u32, .i .i64, .i .i64, .i .i64, .s, .i .i64] := by
  refine flatK_struct Try.underlying39 (fun j k h => ?_)
  rcases j with _ | _ | _ | _ | _ | _ | _ | _ | _ | _ | _ | _ | _ | j
  · exact ⟨0, _, [.i .i64], 0, rfl, rfl, h, (by decide +kernel), flatK3⟩
  · exact ⟨1, _, [.i .i64, .i .u32, .i .u32, .i .i64, .i .u32, .i .u32, .i .u32, .i .i64, .i .i64, .i .i64, .s], 0, rfl, rfl, h, (by decide +kernel), flatK34⟩
  · exact ⟨1, _, [.i .i64, .i .u32, .i .u32, .i .i64, .i .u32, .i .u32, .i .u32, .i .i64, .i .i64, .i .i64, .s], 1, rfl, rfl, h, (by decide +kernel), flatK34⟩
  · exact ⟨1, _, [.i .i64, .i .u32, .i .u32, .i .i64, .i .u32, .i .u32, .i .u32, .i .i64, .i .i64, .i .i64, .s], 2, rfl, rfl, h, (by decide +kernel), flatK34⟩
  · exact ⟨1, _, [.i .i64, .i .u32, .i .u32, .i .i64, .i .u32, .i .u32, .i .u32, .i .i64, .i .i64, .i .i64, .s], 3, rfl, rfl, h, (by decide +kernel), flatK34⟩
  · exact ⟨1, _, [.i .i64, .i .u32, .i .u32, .i .i64, .i .u32, .i .u32, .i .u32, .i .i64, .i .i64, .i .i64, .s], 4, rfl, rfl, h, (by decide +kernel), flatK34⟩
  · exact ⟨1, _, [.i .i64, .i .u32, .i .u32, .i .i64, .i .u32, .i .u32, .i .u32, .i .i64, .i .i64, .i .i64, .s], 5, rfl, rfl, h, (by decide +kernel), flatK34⟩
  · exact ⟨1, _, [.i .i64, .i .u32, .i .u32, .i .i64, .i .u32, .i .u32, .i .u32, .i .i64, .i .i64, .i .i64, .s], 6, rfl, rfl, h, (by decide +kernel), flatK34⟩
  · exact ⟨1, _, [.i .i64, .i .u32, .i .u32, .i .i64, .i .u32, .i .u32, .i .u32, .i .i64, .i .i64, .i .i64, .s], 7, rfl, rfl, h, (by decide +kernel), flatK34⟩
  · exact ⟨1, _, [.i .i64, .i .u32, .i .u32, .i .i64, .i .u32, .i .u32, .i .u32, .i .i64, .i .i64, .i .i64, .s], 8, rfl, rfl, h, (by decide +kernel), flatK34⟩
  · exact ⟨1, _, [.i .i64, .i .u32, .i .u32, .i .i64, .i .u32, .i .u32, .i .u32, .i .i64, .i .i64, .i .i64, .s], 9, rfl, rfl, h, (by decide +kernel), flatK34⟩
  · exact ⟨1, _, [.i .i64, .i .u32, .i .u32, .i .i64, .i .u32, .i .u32, .i .u32, .i .i64, .i .i64, .i .i64, .s], 10, rfl, rfl, h, (by decide +kernel), flatK34⟩
  · exact ⟨2, _, [.i .i64], 0, rfl, rfl, h, (by decide +kernel), flatK3⟩
  · simp at h
set_option maxRecDepth 100000 in
theorem own : ownKnob Try.prog.godebug = none := by kernel_rfl
theorem laidOut : laidOutB Try.prog = true := by kernel_rfl

set_option maxRecDepth 100000 in
theorem contract (H : Type) (enc : TypeId × Value → H) (W : World) (base : Nat) (args : Array Value) (ds gs : List (DataW H)) (before : List MemPlace)
    (hval : ∀ (j : Nat) t v, Try.f4.params[j]? = some t → args[j]? = some v → Value.okWide Try.prog W .any base t v)
    (hW : DataW.Whole enc Try.prog Try.f4.params.toList Rows.shakeMeetsSpec.vars false W args.toList ds gs before) :
    Calls Try.prog 4 args W fun e W' => ∃ v, e = .returned v ∧ Rows.shakeMeetsSpec.post enc Try.prog Try.f4 false true false false W args v W' := by
  have hW' := hW
  obtain ⟨p, q, hA0, hV, rfl, hfz, hnd⟩ := hW
  have hA : DataW.TrodAll enc Try.prog W 0 (fun _ => true) true Try.f4.params.toList args.toList ds p := hA0
  rw [Try.params4] at hA hval
  obtain ⟨v0, vs0, d0, ds0, p0, q0, hargs, rfl, rfl, h0, r0⟩ := trodAll_cons hA
  obtain ⟨v1, vs1, d1, ds1, p1, q1, rfl, rfl, rfl, h1, r1⟩ := trodAll_cons r0
  obtain ⟨v2, vs2, d2, ds2, p2, q2, rfl, rfl, rfl, h2, r2⟩ := trodAll_cons r1
  obtain ⟨rfl, rfl, rfl⟩ := trodAll_nil r2
  obtain rfl : args = #[v0, v1, v2] := by cases args; simp_all
  obtain ⟨rfl, rfl⟩ := trodVars_none hV
  have k0 := h0
  have lt0 : ∀ x ∈ p0, x.block < W.heap.size := by obtain ⟨m, hm⟩ := k0; exact DataW.trod_lt m _ _ _ hm
  have k1 := h1
  have lt1 : ∀ x ∈ p1, x.block < W.heap.size := by obtain ⟨m, hm⟩ := k1; exact DataW.trod_lt m _ _ _ hm
  have k2 := h2
  have lt2 : ∀ x ∈ p2, x.block < W.heap.size := by obtain ⟨m, hm⟩ := k2; exact DataW.trod_lt m _ _ _ hm
  obtain ⟨a0, rfl, hd0, hp0, w0⟩ := open_int Try.underlying22 (hval 0 22 v0 rfl rfl) h0
  obtain ⟨a1, rfl, hd1, hp1, w1⟩ := open_int Try.underlying22 (hval 1 22 v1 rfl rfl) h1
  obtain ⟨a2, len2, cap2, rfl⟩ := okWide_slice Try.underlying26 (hval 2 26 v2 rfl rfl)
  have w2 := isRecK_open Try.underlying26 flatK39 (by kernel_rfl) (by decide) h2
  clear hA0
  refine (shakeMeets_walk a0 a1 a2 len2 cap2 W w0 w1 w2).mono fun e W' ⟨he, bel⟩ => ?_
  subst he
  exact ⟨_, rfl, _, _, _, [], _, [], hW', trodAll_mk1 (shut_bool Try.underlying4 _), (trodAll_cons_mk (Below.trod laidOut (by kernel_rfl) (of_decide_eq_true (by kernel_rfl)) k0 bel lt0) (trodAll_cons_mk (Below.trod laidOut (by kernel_rfl) (of_decide_eq_true (by kernel_rfl)) k1 bel lt1) (trodAll_cons_mk (Below.trod laidOut (by kernel_rfl) (of_decide_eq_true (by kernel_rfl)) k2 bel lt2) trodAll_mk0))), rfl, bel.frame _, fun h => by cases h⟩

set_option maxRecDepth 100000 in
theorem lifted (os : Os) (started : os.Started) (H : Type) (enc : TypeId × Value → H) :
    ReturnsInHanded {} Try.checked os 4 .any (Rows.shakeMeetsSpec.pre6 enc Try.prog Try.f4 Rows.shakeMeetsRow.domain false) (Rows.shakeMeetsSpec.post enc Try.prog Try.f4 false true false false) := by
  refine returnsInHanded_of_change (C := Try.checked) own started (by kernel_rfl) Try.func4
    (ChangeSpec.witness6 (enc := enc) (C := Try.checked) false ⟨#[], #[.int .u32 0, .int .u32 0, .slice none 0 0], []⟩ 8 (by kernel_rfl) (by kernel_rfl) (by kernel_rfl) (by kernel_rfl)) ?_
  intro W base args ds gs before hval hW _ _
  exact contract H enc W base args ds gs before hval hW

set_option maxRecDepth 100000 in
theorem over : Rows.shakeMeetsRow.holds Try.pinned (OpenSpec.ofChange Rows.shakeMeetsSpec) :=
  OpenClaim.holds_of_wide 4 Try.f4 rfl rfl rfl rfl rfl rfl rfl ⟨rfl, rfl, rfl, rfl, rfl⟩ rfl rfl rfl rfl rfl (by kernel_rfl) Try.func4 (by kernel_rfl)
    (of_decide_eq_true (by kernel_rfl)) (by unfold Func.isWrapper; first | (rw [if_pos (by decide +kernel)]; kernel_rfl) | (rw [if_neg (by decide +kernel)]; exact ⟨rfl, rfl⟩))
    (fun os started H enc _ => lifted os started H enc)

theorem proved : Rows.ShakeMeetsSaid := over
#print axioms proved
end Go.Proofs.Ytdpngimcmohmaaa.shakeMeets


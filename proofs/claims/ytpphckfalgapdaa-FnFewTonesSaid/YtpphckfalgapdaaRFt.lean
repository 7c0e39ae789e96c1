/- FnFewTones: whatever the input, the law answers true and what came in reads as it did; no condition. -/
import Derived.Test.YtpphckfalgapdaaRows
import Derived.Test.YtpphckfalgapdaaFtM
import Derived.Test.YtpphckfalgapdaaByt
import Derived.WalkKit
import Derived.ProofKit
import Derived.OpenShut
import Derived.ShutString
import Derived.ChangeOld
import Derived.Below
import Derived.SizedLaws
import Derived.Carry
namespace Go.Proofs.Ytpphckfalgapdaa.fnFewTones
open Go.ChangeShapes Go.WideShapes Go.ChangeAt Go.RowKit Go.Arr
open Go.ChangeMaps (open_string shut_string)
set_option linter.unusedVariables false
theorem own : ownKnob Try.prog.godebug = none := by kernel_rfl
theorem laid : laidOutB Try.prog = true := by kernel_rfl
set_option maxRecDepth 100000 in
theorem lifted (os : Os) (started : os.Started) (H : Type) (enc : TypeId × Value → H) :
    ReturnsInHanded {} Try.checked os 3 .any (Rows.fnFewTonesSpec.pre6 enc Try.prog Try.f3 Rows.fnFewTonesRow.domain false) (Rows.fnFewTonesSpec.post enc Try.prog Try.f3 false true false false) := by
  refine returnsInHanded_of_change_sized (C := Try.checked) own started (by kernel_rfl) Try.func3
    (ChangeSpec.witness6 (enc := enc) (C := Try.checked) false ⟨#[], #[.slice none 0 0, .slice none 0 0], []⟩ 8 (by kernel_rfl) (by kernel_rfl) (by kernel_rfl) (by kernel_rfl)) ?_
  intro W base args ds gs before hval0 hW hcnd hsz0 _
  have hsz : (DataW.weightsEach Try.prog (Try.f3.params.toList ++ Rows.fnFewTonesSpec.plain.varTypes Try.prog) (ds ++ gs)).all (· ≤ reachBytes) = true := hsz0
  have hval : ∀ (j : Nat) t v, Try.f3.params[j]? = some t → args[j]? = some v → Value.okWide Try.prog W .any base t v := hval0
  have hW' := hW
  obtain ⟨p, q, hA0, hV, rfl, hfz, hnd⟩ := hW
  have hA : DataW.TrodAll enc Try.prog W 0 (fun _ => true) true Try.f3.params.toList args.toList ds p := hA0
  rw [Try.params3] at hA hval hsz
  obtain ⟨v0, vs0, d0, ds0, p0, q0, hargs, rfl, rfl, h0, r0⟩ := trodAll_cons hA
  obtain ⟨v1, vs1, d1, ds1, p1, q1, rfl, rfl, rfl, h1, r1⟩ := trodAll_cons r0
  obtain ⟨rfl, rfl, rfl⟩ := trodAll_nil r1
  obtain rfl : args = #[v0, v1] := by cases args; simp_all
  obtain ⟨rfl, rfl⟩ := trodVars_none hV
  have hk0 := h0
  have hp0 : ∀ x ∈ p0, x.block < W.heap.size := fun x hx => hW'.lt x (by simp [hx])
  have hl0 := okWide_block Try.underlying22 (hval 0 22 v0 rfl rfl)
  obtain ⟨n0, f0, hs0, hw0, hm0⟩ := open_sl (m := 1) (k := .u8) Try.underlying22 (by kernel_rfl) (by omega) (fun _ _ _ h => ints_one Try.underlying5 h) (hval 0 22 v0 rfl rfl) h0
  have hk1 := h1
  have hp1 : ∀ x ∈ p1, x.block < W.heap.size := fun x hx => hW'.lt x (by simp [hx])
  have hl1 := okWide_block Try.underlying22 (hval 1 22 v1 rfl rfl)
  obtain ⟨n1, f1, hs1, hw1, hm1⟩ := open_sl (m := 1) (k := .u8) Try.underlying22 (by kernel_rfl) (by omega) (fun _ _ _ h => ints_one Try.underlying5 h) (hval 1 22 v1 rfl rfl) h1
  clear hA0 hval0 hsz0
  refine (FnFewTones_law v0 n0 f0 hm0 (fun i => bounds_u8 (hw0 i)) v1 n1 f1 hm1 (fun i => bounds_u8 (hw1 i)) W hs0 hl0 hs1 hl1).mono fun e W' ⟨he, bel⟩ => ?_
  subst he
  exact ⟨_, rfl, _, _, _, [], _, [], hW', trodAll_mk1 (shut_bool Try.underlying4 _), (trodAll_cons_mk (Below.trod laid (by kernel_rfl) (of_decide_eq_true (by kernel_rfl)) hk0 bel hp0) (trodAll_cons_mk (Below.trod laid (by kernel_rfl) (of_decide_eq_true (by kernel_rfl)) hk1 bel hp1) trodAll_mk0)), rfl, Below.frame bel _, fun h => by cases h⟩
theorem over : Rows.fnFewTonesRow.holds Try.pinned (OpenSpec.ofChange Rows.fnFewTonesSpec) :=
  OpenClaim.holds_of_wide 3 Try.f3 rfl rfl rfl rfl rfl rfl rfl ⟨rfl, rfl, rfl, rfl, rfl⟩ rfl rfl rfl rfl rfl (by kernel_rfl) Try.func3 (by kernel_rfl)
    (of_decide_eq_true (by kernel_rfl)) (by unfold Func.isWrapper; first | (rw [if_pos (by decide +kernel)]; kernel_rfl) | (rw [if_neg (by decide +kernel)]; exact ⟨rfl, rfl⟩))
    (fun os started H enc _ => lifted os started H enc)
end Go.Proofs.Ytpphckfalgapdaa.fnFewTones
namespace Go.Proofs.Ytpphckfalgapdaa
theorem fnFewTones_holds : Rows.FnFewTonesSaid := fnFewTones.over
#print axioms fnFewTones_holds
end Go.Proofs.Ytpphckfalgapdaa

/- FnExactBestTones: whatever the input, the law answers true and what came in reads as it did; no condition. -/
import Derived.Test.YtpofhbdnjecfjaaRows
import Derived.Test.YtpofhbdnjecfjaaLawsBe
import Derived.WalkKit
import Derived.ProofKit
import Derived.OpenShut
import Derived.ShutString
import Derived.ChangeOld
import Derived.Below
import Derived.SizedLaws
import Derived.Carry
namespace Go.Proofs.Ytpofhbdnjecfjaa.fnExactBestTones
open Go.ChangeShapes Go.WideShapes Go.ChangeAt Go.RowKit Go.Arr
open Go.ChangeMaps (open_string shut_string)
set_option linter.unusedVariables false
theorem own : ownKnob Try.prog.godebug = none := by kernel_rfl
theorem laid : laidOutB Try.prog = true := by kernel_rfl
set_option maxRecDepth 100000 in
theorem lifted (os : Os) (started : os.Started) (H : Type) (enc : TypeId × Value → H) :
    ReturnsInHanded {} Try.checked os 4 .any (Rows.fnExactBestTonesSpec.pre6 enc Try.prog Try.f4 Rows.fnExactBestTonesRow.domain false) (Rows.fnExactBestTonesSpec.post enc Try.prog Try.f4 false true false false) := by
  refine returnsInHanded_of_change_sized (C := Try.checked) own started (by kernel_rfl) Try.func4
    (ChangeSpec.witness6 (enc := enc) (C := Try.checked) false ⟨#[], #[.agg (pic 432 0 0 fun _ => 0), .slice none 0 0, .int .i64 0], []⟩ 8 (by kernel_rfl) (by kernel_rfl) (by kernel_rfl) (by kernel_rfl)) ?_
  intro W base args ds gs before hval0 hW hcnd hsz0 _
  have hsz : (DataW.weightsEach Try.prog (Try.f4.params.toList ++ Rows.fnExactBestTonesSpec.plain.varTypes Try.prog) (ds ++ gs)).all (· ≤ reachBytes) = true := hsz0
  have hval : ∀ (j : Nat) t v, Try.f4.params[j]? = some t → args[j]? = some v → Value.okWide Try.prog W .any base t v := hval0
  have hW' := hW
  obtain ⟨p, q, hA0, hV, rfl, hfz, hnd⟩ := hW
  have hA : DataW.TrodAll enc Try.prog W 0 (fun _ => true) true Try.f4.params.toList args.toList ds p := hA0
  rw [Try.params4] at hA hval hsz
  obtain ⟨v0, vs0, d0, ds0, p0, q0, hargs, rfl, rfl, h0, r0⟩ := trodAll_cons hA
  obtain ⟨v1, vs1, d1, ds1, p1, q1, rfl, rfl, rfl, h1, r1⟩ := trodAll_cons r0
  obtain ⟨v2, vs2, d2, ds2, p2, q2, rfl, rfl, rfl, h2, r2⟩ := trodAll_cons r1
  obtain ⟨rfl, rfl, rfl⟩ := trodAll_nil r2
  obtain rfl : args = #[v0, v1, v2] := by cases args; simp_all
  obtain ⟨rfl, rfl⟩ := trodVars_none hV
  have hk0 := h0
  have hp0 : ∀ x ∈ p0, x.block < W.heap.size := fun x hx => hW'.lt x (by simp [hx])
  obtain ⟨a0, b0, f0, rfl, ha0, hb0, hf0⟩ := open_pic (e := 24) (t8 := 22) Try.underlying26 ⟨rfl, rfl⟩ ⟨rfl, rfl⟩ ⟨rfl, rfl⟩ Try.underlying22 (by kernel_rfl) (by kernel_rfl) (by kernel_rfl) (fun fuel cs x h => by have := ints_array (m := 3) Try.underlying24 (by kernel_rfl) (by omega) (by kernel_rfl) (fun _ _ _ h => (ints_array (m := 1) Try.underlying23 (by kernel_rfl) (by omega) (by kernel_rfl) (fun _ _ _ h => ints_one Try.underlying5 h) h).2) h; simpa using this) (hval 0 26 v0 rfl rfl) h0
  have hk1 := h1
  have hp1 : ∀ x ∈ p1, x.block < W.heap.size := fun x hx => hW'.lt x (by simp [hx])
  obtain ⟨n1, f1, hs1, hw1, hm1⟩ := open_sl (m := 3) (k := .u8) Try.underlying27 (by kernel_rfl) (by omega) (fun _ _ _ h => (ints_array (m := 1) Try.underlying23 (by kernel_rfl) (by omega) (by kernel_rfl) (fun _ _ _ h => ints_one Try.underlying5 h) h).2) (hval 1 27 v1 rfl rfl) h1
  have hk2 := h2
  have hp2 : ∀ x ∈ p2, x.block < W.heap.size := fun x hx => hW'.lt x (by simp [hx])
  obtain ⟨a2, rfl, rfl, rfl, w2⟩ := open_int Try.underlying2 (hval 2 2 v2 rfl rfl) h2
  have ha2 := bounds_i64 w2
  clear hA0 hval0 hsz0
  refine (BestTones_law a0 b0 f0 ha0 hb0 hf0 v1 n1 f1 hm1 (fun i => bounds_u8 (hw1 i)) a2 ha2 W hs1).mono fun e W' ⟨he, bel⟩ => ?_
  subst he
  exact ⟨_, rfl, _, _, _, [], _, [], hW', trodAll_mk1 (shut_bool Try.underlying4 _), (trodAll_cons_mk (Below.trod laid (by kernel_rfl) (of_decide_eq_true (by kernel_rfl)) hk0 bel hp0) (trodAll_cons_mk (Below.trod laid (by kernel_rfl) (of_decide_eq_true (by kernel_rfl)) hk1 bel hp1) (trodAll_cons_mk (Below.trod laid (by kernel_rfl) (of_decide_eq_true (by kernel_rfl)) hk2 bel hp2) trodAll_mk0))), rfl, Below.frame bel _, fun h => by cases h⟩
theorem over : Rows.fnExactBestTonesRow.holds Try.pinned (OpenSpec.ofChange Rows.fnExactBestTonesSpec) :=
  OpenClaim.holds_of_wide 4 Try.f4 rfl rfl rfl rfl rfl rfl rfl ⟨rfl, rfl, rfl, rfl, rfl⟩ rfl rfl rfl rfl rfl (by kernel_rfl) Try.func4 (by kernel_rfl)
    (of_decide_eq_true (by kernel_rfl)) (by unfold Func.isWrapper; first | (rw [if_pos (by decide +kernel)]; kernel_rfl) | (rw [if_neg (by decide +kernel)]; exact ⟨rfl, rfl⟩))
    (fun os started H enc _ => lifted os started H enc)
end Go.Proofs.Ytpofhbdnjecfjaa.fnExactBestTones
namespace Go.Proofs.Ytpofhbdnjecfjaa
theorem fnExactBestTones_holds : Rows.FnExactBestTonesSaid := fnExactBestTones.over
#print axioms fnExactBestTones_holds
end Go.Proofs.Ytpofhbdnjecfjaa

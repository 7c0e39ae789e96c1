/- FnNearest: whatever the input, the law answers true and what came in reads as it did: the row and its tied card; no condition. -/
import Derived.Test.YtphjhegaplochaaGreatDoorRows
import Derived.Test.YtphjhegaplochaaGreatDoorTie
import Derived.Test.YtphjhegaplochaaGreatDoorCards
import Derived.Test.YtphjhegaplochaaGreatDoorNnX
import Derived.Test.YtphjhegaplochaaGreatDoorByt
import Derived.WalkKit
import Derived.ProofKit
import Derived.OpenShut
import Derived.ShutString
import Derived.ChangeOld
import Derived.Below
import Derived.SizedLaws
import Derived.Carry
import Derived.LaidMore
import Derived.Lay
import Derived.SevenTiedAt
import Derived.Stop.Joined
import Derived.HandedShaped
namespace Go.Proofs.YtphjhegaplochaaGreatDoor.fnNearest
open Go.ChangeShapes Go.WideShapes Go.ChangeAt Go.RowKit Go.Arr
open Go.ChangeMaps (open_string shut_string)
set_option linter.unusedVariables false
theorem own : ownKnob Tryz.prog.godebug = none := by kernel_rfl
theorem laid : laidOutB Tryz.prog = true := by kernel_rfl
set_option maxRecDepth 100000 in
theorem witness (os : Os) (H : Type) (enc : TypeId × Value → H) : ∃ (w : World) (tape : Tape) (i : Input), w.os = os ∧ (w.forCall tape i).Shaped Tryz.checked.prog ∧ i.vars = [] ∧ Input.okWide Tryz.checked.prog (w.forCall tape i) .any w.heap.size 3 i ∧
    ((Rows.fnNearestSpec.pre enc Tryz.checked.prog Tryz.f3 Rows.fnNearestRow.domain false (w.forCall tape i).memory i.args ∧ laidMetH Tryz.prog Rows.fnNearestRow.laid (w.forCall tape i).memory) ∧ sizedMet enc Tryz.checked.prog Tryz.f3 (OpenSpec.ofChange Rows.fnNearestSpec) false (w.forCall tape i).memory i.args) ∧ ({} : Assume).holds Tryz.checked.prog (lone (Frame.enter Tryz.checked.prog 3 i.args .normal) [] (w.forCall tape i)) :=
  ChangeSpec.witness_shaped (enc := enc) (C := Tryz.checked) (os := os) (X := fun w _ => laidMetH Tryz.prog Rows.fnNearestRow.laid w) false (World.laidAll Tryz.prog os Rows.fnNearestRow.laid) #[.slice none 0 0, .slice none 0 0] 8 (World.laidAll_os _ _ _)
    (World.shaped_of_ZipB (by kernel_rfl) (by kernel_rfl)) (by kernel_rfl) (by kernel_rfl) (by kernel_rfl)
    (by rw [MakeChecks.laidMetH_plain _ _ _ (by kernel_rfl)]; exact laidMet_laidAll _ (by kernel_rfl) (by kernel_rfl))
set_option maxRecDepth 100000 in
theorem lifted (os : Os) (started : os.Started) (H : Type) (enc : TypeId × Value → H) :
    ReturnsInHanded {} Tryz.checked os 3 .any (fun w args => (Rows.fnNearestSpec.pre enc Tryz.prog Tryz.f3 Rows.fnNearestRow.domain false w args ∧ laidMetH Tryz.prog Rows.fnNearestRow.laid w) ∧ sizedMet enc Tryz.prog Tryz.f3 (OpenSpec.ofChange Rows.fnNearestSpec) false w args)
      (Rows.fnNearestSpec.post enc Tryz.prog Tryz.f3 false true false false) := by
  refine returnsInHanded_of_calls (C := Tryz.checked) own started (by kernel_rfl) (witness os H enc) ?_
  intro w0 tape i _ hsh _ hok hpre _
  obtain ⟨_, _, _, fn, hfn, _, _, _, _, hval0⟩ := hok
  have efn : fn = Tryz.f3 := Option.some.inj (hfn.symm.trans Tryz.func3)
  subst efn
  obtain ⟨⟨⟨ds, gs, before, hw, _⟩, _⟩, _⟩ := hpre
  have hW := DataW.Whole.of_heap (w' := w0.forCall tape i) (by rfl) hw
  obtain ⟨m, hmx⟩ := Tryz.laysM146.s1_3 _ hsh
  clear hw hsh hfn
  generalize w0.forCall tape i = W at hW hmx hval0 ⊢
  generalize i.args = args at hW hval0 ⊢
  have hval : ∀ (j : Nat) t v, Tryz.f3.params[j]? = some t → args[j]? = some v → Value.okWide Tryz.prog W .any w0.heap.size t v := hval0
  have hW' := hW
  obtain ⟨p, q, hA0, hV, rfl, hfz, hnd⟩ := hW
  have hA : DataW.TrodAll enc Tryz.prog W 0 (fun _ => true) true Tryz.f3.params.toList args.toList ds p := hA0
  rw [Tryz.params3] at hA hval
  obtain ⟨v0, vs0, d0, ds0, p0, q0, hargs, rfl, rfl, h0, r0⟩ := trodAll_cons hA
  obtain ⟨v1, vs1, d1, ds1, p1, q1, rfl, rfl, rfl, h1, r1⟩ := trodAll_cons r0
  obtain ⟨rfl, rfl, rfl⟩ := trodAll_nil r1
  obtain rfl : args = #[v0, v1] := by cases args; simp_all
  obtain ⟨rfl, rfl⟩ := trodVars_none hV
  have hk0 := h0
  have hp0 : ∀ x ∈ p0, x.block < W.heap.size := fun x hx => hW'.lt x (by simp [hx])
  have hl0 := okWide_block Tryz.underlying22 (hval 0 22 v0 rfl rfl)
  obtain ⟨n0, f0, hs0, hw0, hm0⟩ := open_sl (m := 1) (k := .u8) Tryz.underlying22 (by kernel_rfl) (by omega) (fun _ _ _ h => ints_one Tryz.underlying5 h) (hval 0 22 v0 rfl rfl) h0
  have hk1 := h1
  have hp1 : ∀ x ∈ p1, x.block < W.heap.size := fun x hx => hW'.lt x (by simp [hx])
  have hl1 := okWide_block Tryz.underlying22 (hval 1 22 v1 rfl rfl)
  obtain ⟨n1, f1, hs1, hw1, hm1⟩ := open_sl (m := 1) (k := .u8) Tryz.underlying22 (by kernel_rfl) (by omega) (fun _ _ _ h => ints_one Tryz.underlying5 h) (hval 1 22 v1 rfl rfl) h1
  clear hA0 hval0
  refine (FnNearest_law v0 n0 f0 hm0 (fun i => bounds_u8 (hw0 i)) v1 n1 f1 hm1 (fun i => bounds_u8 (hw1 i)) m W hs0 hl0 hs1 hl1 hmx).mono fun e W' ⟨he, bel⟩ => ?_
  subst he
  exact ChangeSpec.post_blind ⟨_, _, _, [], _, [], hW', trodAll_mk1 (shut_bool Tryz.underlying4 _), (trodAll_cons_mk (Below.trod laid (by kernel_rfl) (of_decide_eq_true (by kernel_rfl)) hk0 bel hp0) (trodAll_cons_mk (Below.trod laid (by kernel_rfl) (of_decide_eq_true (by kernel_rfl)) hk1 bel hp1) trodAll_mk0)), rfl, Below.frame bel _, fun h => by cases h⟩
theorem over : Rows.fnNearestRow.holds Tryz.pinned (OpenSpec.ofChange Rows.fnNearestSpec) :=
  OpenClaim.holds_of_wide 3 Tryz.f3 rfl rfl rfl rfl rfl rfl rfl ⟨rfl, rfl, rfl, rfl, rfl⟩ rfl rfl rfl rfl rfl (by kernel_rfl) Tryz.func3 (by kernel_rfl)
    (of_decide_eq_true (by kernel_rfl)) (by unfold Func.isWrapper; first | (rw [if_pos (by decide +kernel)]; kernel_rfl) | (rw [if_neg (by decide +kernel)]; exact ⟨rfl, rfl⟩))
    (fun os started H enc _ => lifted os started H enc)
theorem card : Rows.FnNearestCardSaid :=
  Claim7.holds_tied_plain_at .later [] [.data, .pinned] true (true, "0dc9445ca21f8654312ccfb65af979a6edac67fa7ca376bbfac0120a8a0da550") false over (fun _ h => by cases h) (by kernel_rfl) (fun _ h => by cases h) fnNearest_row_tie rfl ⟨rfl, rfl⟩ (by kernel_rfl) rfl
    (fun f fn hf hfn => by
      obtain rfl : f = 3 := Option.some.inj ((show Tryz.prog.funcNamed "loop.example/g01322/laws.FnNearest" = some 3 by kernel_rfl).symm.trans hf) |>.symm
      obtain rfl : fn = Tryz.f3 := (Option.some.inj (Tryz.func3.symm.trans hfn)).symm
      exact ⟨by kernel_rfl, fun j t ht => by
        rw [Tryz.params3] at ht
        have hm : t ∈ [22, 22] := by simpa using Array.mem_of_getElem? ht
        have hall : ([22, 22].all fun u => !Tryz.prog.wantsStandIn u) = true := by kernel_rfl
        have := List.all_eq_true.1 hall t hm
        exact (show Tryz.prog.wantsStandIn t = false by simpa using this)⟩)
    (by kernel_rfl)
end Go.Proofs.YtphjhegaplochaaGreatDoor.fnNearest
namespace Go.Proofs.YtphjhegaplochaaGreatDoor
theorem fnNearest_card : Rows.FnNearestCardSaid := fnNearest.card
#print axioms fnNearest_card
end Go.Proofs.YtphjhegaplochaaGreatDoor

/- An image is held against itself; no condition. -/
import Derived.Test.YthgnceamnjgkoaaImg
import Derived.Test.YthgnceamnjgkoaaPal
set_option linter.unusedVariables false
namespace Go.Proofs.Ythgnceamnjgkoaa
open Go.BigFrame
open Go.RowKit Go.Arr
set_option maxHeartbeats 1000000 in
set_option maxRecDepth 100000 in
theorem eqTones_refl (f : Nat → Int) (w : World) :
    Calls Try.prog 66 #[.agg (arr 432 .u8 f), .agg (arr 432 .u8 f)] w fun e w' => e = .returned (.bool true) ∧ New w w' := by
  go_enter Try.func66, Try.ntmps66
  go_wp2_with (fail)
  generalize hv : (w.alloc (Obj.cells (arr 432 .u8 f) 36)).alloc (Obj.cells (arr 432 .u8 f) 36) = v
  have b1 : obj v w.heap.size = some (.cells (arr 432 .u8 f) 36) := by subst hv; go_simp
  have b2 : obj v (w.heap.size + 1) = some (.cells (arr 432 .u8 f) 36) := by subst hv; go_simp
  have hw : New w v := by subst hv; exact ((New.refl w).alloc _).alloc _
  clear hv
  go_loopw [5] (fun i wr => ∃ k : Nat, k ≤ 144 ∧ i = .int .i64 k ∧ New v wr) (fun i _ => 144 - (intOf i).toNat)
  case atStart => exact ⟨0, by omega, rfl, New.refl v⟩
  case round =>
    obtain ⟨k, hk, rfl, hnw⟩ := hrel
    by_cases hlt : k < 144
    · have p1 := (hnw.objs _ (obj_lt b1)).trans b1
      have p2 := (hnw.objs _ (obj_lt b2)).trans b2
      have q1 := obj_lt p1
      have q2 := obj_lt p2
      have hx : (arr 432 .u8 f).extract (k * 3) (k * 3 + 3) = #[.int .u8 (f (k * 3)), .int .u8 (f (k * 3 + 1)), .int .u8 (f (k * 3 + 2))] := arr3 (by omega) rfl
      have lx : k * 3 + 3 ≤ 432 := by omega
      have hr : eq3 (f (k * 3)) (f (k * 3 + 1)) (f (k * 3 + 2)) (f (k * 3)) (f (k * 3 + 1)) (f (k * 3 + 2)) = true := by simp [eq3]
      clear b1 b2
      go_wp2_with (fail)
      refine wp_region_new (by kernel_rfl) (by kernel_rfl) ?_
      repeat (go_big_quiet_step (first | fail | (go_at_call 58; with_reducible exact calls_new (eqTone_any _ _ _ _ _ _ _))))
      refine wpQuiet_nil ?_
      intro w1 hc1
      have hn1 := NewW.of hc1
      clear hc1
      have ho1 := hn1.objs
      have hz1 := hn1.le
      try simp at hz1
      go_wp2_with (fail)
      go_roundw
      case rel => exact ⟨k + 1, by omega, by go_num, hnw.trans hn1⟩
      case measure => simp [intOf]; omega
    · obtain rfl : k = 144 := by omega
      go_wp2_with (fail)
      go_ret
      exact ⟨rfl, hw.trans hnw⟩
set_option maxHeartbeats 1000000 in
set_option maxRecDepth 100000 in
theorem eqImage_refl (a b : Int) (f : Nat → Int) (w : World) :
    Calls Try.prog 24 #[.agg (pic 432 a b f), .agg (pic 432 a b f)] w fun e w' => e = .returned (.bool true) ∧ New w w' := by
  have h1 : (a != a) = false := by simp
  have h2 : (b != b) = false := by simp
  go_enter Try.func24, Try.ntmps24
  go_wp2_with (fail)
  refine (eqTones_refl f _).mono ?_
  rintro e1 w1 ⟨rfl, hn1⟩
  have ho1 := hn1.objs
  have hz1 := hn1.le
  try simp at hz1
  go_wp2_with (fail)
  go_ret
  refine ⟨rfl, ?_⟩
  repeat' (first | exact New.refl _ | refine New.alloc ?_ _ | refine New.drew ?_ | refine New.drewN ?_ _ | refine New.setRow ?_ (by omega) _ | refine New.setCell ?_ (by first | omega | (simp; done) | (simp; omega)) _ | refine New.trans ?_ hn1)
end Go.Proofs.Ythgnceamnjgkoaa

/- A picture is equal to itself; no condition. -/
import Derived.Test.YtnaecghpahbojaaDoorSmall
import Derived.Test.YtnaecghpahbojaaDoorPic
set_option linter.unusedVariables false
namespace Go.Proofs.YtnaecghpahbojaaDoor
open Go.BigFrame
open Go.RowKit Go.Arr
set_option maxHeartbeats 1000000 in
set_option maxRecDepth 100000 in
theorem eqBytes_refl (f : Nat → Int) (w : World) :
    Calls Tryd.prog 18 #[.agg (arr 144 .u8 f), .agg (arr 144 .u8 f)] w fun e w' => e = .returned (.bool true) ∧ New w w' := by
  go_enter Tryd.func18, Tryd.ntmps18
  go_wp2_with (fail)
  go_loopw [5] (fun i wr => ∃ k : Nat, k ≤ 144 ∧ i = .int .i64 k ∧ Hid (obj wr w.heap.size = some (.cells (arr 144 .u8 f) 23)) ∧ Hid (obj wr (w.heap.size + 1) = some (.cells (arr 144 .u8 f) 23)) ∧ New w wr) (fun i _ => 144 - (intOf i).toNat)
  case atStart =>
    refine ⟨0, by omega, rfl, ?_, ?_, ?_⟩
    · show _ = _
      go_simp
    · show _ = _
      go_simp
    · repeat' (first | exact New.refl _ | refine New.alloc ?_ _ | refine New.drew ?_ | refine New.drewN ?_ _ | refine New.setRow ?_ (by omega) _ | refine New.setCell ?_ (by first | omega | (simp; done) | (simp; omega)) _)
  case round =>
    obtain ⟨k, hk, rfl, hp1, hq1, hn⟩ := hrel
    have hp := hp1.out
    have hq := hq1.out
    by_cases hlt : k < 144
    · have hne : (f k != f k) = false := by simp
      go_wp2_with (fail)
      go_quiet (fail)
      go_wp2_with (fail)
      go_roundw
      case rel => exact ⟨k + 1, by omega, by go_num, hp1, hq1, hn.drewN _⟩
      case measure => simp [intOf]; omega
    · obtain rfl : k = 144 := by omega
      go_wp2_with (fail)
      go_ret
      exact ⟨rfl, hn⟩
set_option maxHeartbeats 1000000 in
set_option maxRecDepth 100000 in
theorem eqPicture_refl (a b : Int) (f : Nat → Int) (w : World) :
    Calls Tryd.prog 7 #[.agg (pic 144 a b f), .agg (pic 144 a b f)] w fun e w' => e = .returned (.bool true) ∧ New w w' := by
  go_enter Tryd.func7, Tryd.ntmps7
  go_wp2_with (fail)
  refine (eqBytes_refl f _).mono ?_
  rintro e1 w1 ⟨rfl, hn1⟩
  have ho1 := hn1.objs
  have hz1 := hn1.le
  try simp at hz1
  have k1_0 : w.heap.size < w1.heap.size := by omega
  have k1_1 : w.heap.size + 1 < w1.heap.size := by omega
  go_wp2_with (fail)
  go_ret
  refine ⟨rfl, ?_⟩
  repeat' (first | exact New.refl _ | refine New.alloc ?_ _ | refine New.drew ?_ | refine New.drewN ?_ _ | refine New.setRow ?_ (by omega) _ | refine New.setCell ?_ (by first | omega | (simp; done) | (simp; omega)) _ | refine New.trans ?_ hn1)
end Go.Proofs.YtnaecghpahbojaaDoor

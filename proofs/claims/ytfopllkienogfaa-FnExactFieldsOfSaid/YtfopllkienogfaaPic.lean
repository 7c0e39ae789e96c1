/- Pictures: what comes in is handed on, and two are held against each other; no condition. -/
import Derived.Test.YtfopllkienogfaaTy
import Derived.Test.YtfopllkienogfaaOpen
import Derived.Test.YtfopllkienogfaaNewQ
set_option linter.unusedVariables false
namespace Go.Proofs.Ytfopllkienogfaa
open Go.BigFrame
open Go.RowKit Go.Arr
set_option maxHeartbeats 400000 in
set_option maxRecDepth 100000 in
theorem toBytes_any (f : Nat → Int) (w : World) :
    Calls Try.prog 35 #[.agg (arr 144 .u8 f)] w fun e w' => e = .returned (.agg (arr 144 .u8 f)) ∧ New w w' := by
  go_enter Try.func35, Try.ntmps35
  go_wp2
  go_loopw [4] (fun i wr => ∃ k : Nat, k ≤ 144 ∧ i = .int .i64 k ∧ wr = ((w.alloc (Obj.cells (arr 144 IntKind.u8 f) 23)).alloc (Obj.cells (arr 144 IntKind.u8 fun _ => 0) 23)).alloc (Obj.cells (arr 144 IntKind.u8 fun j => if j < k then f j else 0) 23)) (fun i _ => 144 - (intOf i).toNat)
  case atStart => exact ⟨0, by omega, rfl, by simp⟩
  case round =>
    obtain ⟨k, hk, rfl, rfl⟩ := hrel
    by_cases hlt : k < 144
    · go_wp2
      go_roundw
      case rel =>
        refine ⟨k + 1, by omega, by go_num, ?_⟩
        congr 2
        refine arr_congr fun j hj => ?_
        unfold upd
        show _ = if j < k + 1 then f j else 0
        by_cases e : j = k
        · subst e; simp
        · rw [if_neg e]; dsimp only
          by_cases e2 : j < k
          · rw [if_pos e2, if_pos (by omega)]
          · rw [if_neg e2, if_neg (by omega)]
      case measure => simp [intOf]; omega
    · obtain rfl : k = 144 := by omega
      go_wp2
      refine ret_cell agg23 rfl rfl (c := arr 144 .u8 fun j => if j < 144 then f j else 0) (t := 23) (fr := (0, 0)) (by go_simp) (size_arr) rfl ⟨?_, ?_⟩
      · rw [arr_congr (fun i hi => if_pos hi)]
      · exact (((New.refl w).alloc _).alloc _).alloc _


set_option maxHeartbeats 400000 in
set_option maxRecDepth 100000 in
theorem toPicture_any (a b : Int) (f : Nat → Int) (w : World) :
    Calls Try.prog 7 #[.agg (pic 144 a b f)] w fun e w' => e = .returned (.agg (pic 144 a b f)) ∧ New w w' := by
  go_enter Try.func7, Try.ntmps7
  go_wp2_with (first | (go_at_call 35; refine (toBytes_any _ _).mono ?_; rintro e w1 ⟨rfl, hn1⟩; obtain ⟨ho1, hz1⟩ := hn1.old))
  refine ret_cell agg28 rfl rfl (c := pic 144 a b f) (t := 28) (fr := (0, 0)) (by go_simp) size_pic rfl ⟨rfl, ?_⟩
  repeat' (first | exact New.refl _ | refine New.alloc ?_ _ | refine New.drew ?_ | refine New.drewN ?_ _ | refine New.setRow ?_ (by omega) _ | refine New.trans ?_ hn1)
end Go.Proofs.Ytfopllkienogfaa

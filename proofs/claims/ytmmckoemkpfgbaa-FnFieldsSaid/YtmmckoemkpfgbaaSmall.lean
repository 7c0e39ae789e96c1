/- Bounds, places and codes: what the small functions of the program and of the reference return; no condition. -/
import Derived.Test.YtmmckoemkpfgbaaTy
import Derived.Test.YtmmckoemkpfgbaaOpen
import Derived.Test.YtmmckoemkpfgbaaNewQ
set_option linter.unusedVariables false
namespace Go.Proofs.Ytmmckoemkpfgbaa
open Go.BigFrame
open Go.RowKit Go.Arr
def inB (n lo hi : Int) : Bool := decide (lo ≤ n ∧ n ≤ hi)
theorem inB_t {n lo hi : Int} : inB n lo hi = true ↔ lo ≤ n ∧ n ≤ hi := by unfold inB; simp
theorem inB_f {n lo hi : Int} : inB n lo hi = false ↔ n < lo ∨ hi < n := by unfold inB; simp; omega
theorem ret_b {a b : Bool} (h : a = b) : Ending.returned (.bool a) = .returned (.bool b) := by rw [h]
set_option maxHeartbeats 400000 in
theorem l00In_any (n lo hi : Int) (w : World) : Calls Try.prog 47 #[.int .i64 n, .int .i64 lo, .int .i64 hi] w fun e w' => e = .returned (.bool (inB n lo hi)) ∧ w = w' := by
  by_cases h : lo ≤ n
  · go_enter Try.func47, Try.ntmps47
    go_wp2
    go_ret
    exact ⟨ret_b (by simp [inB, h]), rfl⟩
  · go_enter Try.func47, Try.ntmps47
    go_wp2
    go_ret
    exact ⟨ret_b (by simp [inB]; omega), rfl⟩
set_option maxHeartbeats 400000 in
theorem within_any (n lo hi : Int) (w : World) : Calls Try.prog 51 #[.int .i64 n, .int .i64 lo, .int .i64 hi] w fun e w' => e = .returned (.bool (inB n lo hi)) ∧ w = w' := by
  by_cases h : lo ≤ n
  · go_enter Try.func51, Try.ntmps51
    go_wp2
    go_ret
    exact ⟨ret_b (by simp [inB, h]), rfl⟩
  · go_enter Try.func51, Try.ntmps51
    go_wp2
    go_ret
    exact ⟨ret_b (by simp [inB]; omega), rfl⟩
def isSizeB (a b : Int) : Bool := inB a 1 12 && inB b 1 12
set_option maxHeartbeats 400000 in
theorem isSize_any (a b : Int) (w : World) : Calls Try.prog 42 #[.int .i64 a, .int .i64 b] w fun e w' => e = .returned (.bool (isSizeB a b)) ∧ w = w' := by
  cases h : inB a 1 12
  all_goals
    go_enter Try.func42, Try.ntmps42
    go_wp2_with (go_at_call 51; refine (within_any _ _ _ _).mono ?_; rintro e w' ⟨rfl, rfl⟩)
    go_ret
    exact ⟨ret_b (by simp [isSizeB, h]), rfl⟩
def isCellB (x y a b : Int) : Bool := inB x 0 (a - 1) && inB y 0 (b - 1)
set_option maxHeartbeats 400000 in
theorem isCell_any (x y a b : Int) (ha : -128 ≤ a ∧ a ≤ 127) (hb : -128 ≤ b ∧ b ≤ 127) (w : World) : Calls Try.prog 48 #[.int .i64 x, .int .i64 y, .int .i8 a, .int .i8 b] w fun e w' => e = .returned (.bool (isCellB x y a b)) ∧ w = w' := by
  cases h : inB x 0 (a - 1)
  all_goals
    go_enter Try.func48, Try.ntmps48
    go_wp2_with (go_at_call 51; refine (within_any _ _ _ _).mono ?_; rintro e w' ⟨rfl, rfl⟩)
    go_ret
    exact ⟨ret_b (by simp [isCellB, h]), rfl⟩
def codeB (a b : Bool) : Int := if a = false then 1 else if b = false then 2 else 0
set_option maxHeartbeats 400000 in
theorem codeOf_any (a b : Bool) (w : World) : Calls Try.prog 31 #[.bool a, .bool b] w fun e w' => e = .returned (.int .i64 (codeB a b)) ∧ w = w' := by
  cases a <;> cases b
  all_goals
    go_enter Try.func31, Try.ntmps31
    go_wp2
    go_ret
    exact ⟨rfl, rfl⟩
set_option maxHeartbeats 400000 in
theorem isColour_any (n : Int) (w : World) : Calls Try.prog 35 #[.int .i64 n] w fun e w' => e = .returned (.bool (inB n 0 15)) ∧ w = w' := by
  go_enter Try.func35, Try.ntmps35
  go_wp2_with (go_at_call 51; refine (within_any _ _ _ _).mono ?_; rintro e w' ⟨rfl, rfl⟩)
  go_ret
  exact ⟨rfl, rfl⟩
set_option maxHeartbeats 400000 in
theorem l01Colour_any (n : Int) (w : World) : Calls Try.prog 37 #[.int .i64 n] w fun e w' => e = .returned (.bool (inB n 0 15)) ∧ w = w' := by
  go_enter Try.func37, Try.ntmps37
  go_wp2_with (go_at_call 47; refine (l00In_any _ _ _ _).mono ?_; rintro e w' ⟨rfl, rfl⟩)
  go_ret
  exact ⟨rfl, rfl⟩
end Go.Proofs.Ytmmckoemkpfgbaa

/- Tones: what the small functions on them return; no condition. -/
import Derived.Test.YtpofhbdnjecfjaaTy
import Derived.Test.YtpofhbdnjecfjaaOpen
import Derived.Test.YtpofhbdnjecfjaaNewQ
set_option linter.unusedVariables false
namespace Go.Proofs.Ytpofhbdnjecfjaa
open Go.BigFrame
open Go.RowKit Go.Arr
def bright (a b c : Int) : Int := 3 * a + 6 * b + c
def far (a b c d e f : Int) : Int := 3 * (a - d) * (a - d) + 6 * (b - e) * (b - e) + (c - f) * (c - f)
set_option maxHeartbeats 400000 in
theorem toTone_any (a b c : Int) (w : World) :
    Calls Try.prog 26 #[.agg #[.int .u8 a, .int .u8 b, .int .u8 c]] w fun e w' => e = .returned (.agg #[.int .u8 a, .int .u8 b, .int .u8 c]) ∧ New w w' := by
  go_enter Try.func26, Try.ntmps26
  go_wp2
  refine wp_loop_rounds 4 ?_
  repeat any_goals (rw [rounds_succ]; go_wp2)
  refine ret_cell agg34 rfl rfl (c := #[.int .u8 a, .int .u8 b, .int .u8 c]) (t := 34) (fr := (0, 0)) (by go_simp) rfl rfl ⟨rfl, ?_⟩
  repeat' (first | exact New.refl _ | refine New.alloc ?_ _ | refine New.drew ?_ | refine New.drewN ?_ _ | refine New.setRow ?_ (by omega) _ | refine New.setCell ?_ (by first | omega | (simp; done) | (simp; omega)) _)
theorem mul_self_nonneg' (x : Int) : 0 ≤ x * x := by
  rcases Int.le_total 0 x with h | h
  · exact Int.mul_nonneg h h
  · have := Int.mul_nonneg (show 0 ≤ -x by omega) (show 0 ≤ -x by omega)
    rwa [Int.neg_mul_neg] at this
theorem sq_le (x : Int) (h0 : -255 ≤ x) (h1 : x ≤ 255) : 0 ≤ x * x ∧ x * x ≤ 65025 := by
  refine ⟨mul_self_nonneg' x, ?_⟩
  rcases Int.le_total 0 x with h | h
  · have := Int.mul_le_mul h1 h1 h (by omega)
    omega
  · have := Int.mul_le_mul (show -x ≤ 255 by omega) (show -x ≤ 255 by omega) (by omega) (by omega)
    rw [Int.neg_mul_neg] at this
    omega
theorem sq3 (k x : Int) (hk : 0 ≤ k ∧ k ≤ 6) (h0 : -255 ≤ x) (h1 : x ≤ 255) : 0 ≤ k * x * x ∧ k * x * x ≤ 390150 := by
  have h := sq_le x h0 h1
  rw [Int.mul_assoc]
  refine ⟨Int.mul_nonneg hk.1 h.1, ?_⟩
  have := Int.mul_le_mul hk.2 h.2 h.1 (by omega)
  omega
set_option maxHeartbeats 1000000 in
theorem far_spec0 (a b c : Int) (ha : 0 ≤ a ∧ a ≤ 255) (hb : 0 ≤ b ∧ b ≤ 255) (hc : 0 ≤ c ∧ c ≤ 255) (d e f : Int) (hd : 0 ≤ d ∧ d ≤ 255) (he : 0 ≤ e ∧ e ≤ 255) (hf : 0 ≤ f ∧ f ≤ 255) (w : World) :
    Calls Try.prog 44 #[.agg #[.int .u8 a, .int .u8 b, .int .u8 c], .agg #[.int .u8 d, .int .u8 e, .int .u8 f]] w fun e' w' => e' = .returned (.int .i64 (far a b c d e f)) ∧ New w w' := by
  have s1 := sq3 3 (a - d) (by omega) (by omega) (by omega)
  have s2 := sq3 6 (b - e) (by omega) (by omega) (by omega)
  have s3 := sq_le (c - f) (by omega) (by omega)
  go_enter Try.func44, Try.ntmps44
  go_wp2
  go_ret

  exact ⟨rfl, ((New.refl w).alloc _).alloc _⟩
set_option maxHeartbeats 1000000 in
theorem far_impl (a b c : Int) (ha : 0 ≤ a ∧ a ≤ 255) (hb : 0 ≤ b ∧ b ≤ 255) (hc : 0 ≤ c ∧ c ≤ 255) (d e f : Int) (hd : 0 ≤ d ∧ d ≤ 255) (he : 0 ≤ e ∧ e ≤ 255) (hf : 0 ≤ f ∧ f ≤ 255) (w : World) :
    Calls Try.prog 47 #[.agg #[.int .u8 a, .int .u8 b, .int .u8 c], .agg #[.int .u8 d, .int .u8 e, .int .u8 f]] w fun e' w' => e' = .returned (.int .i64 (far a b c d e f)) ∧ New w w' := by
  have s1 := sq3 3 (a - d) (by omega) (by omega) (by omega)
  have s2 := sq3 6 (b - e) (by omega) (by omega) (by omega)
  have s3 := sq_le (c - f) (by omega) (by omega)
  go_enter Try.func47, Try.ntmps47
  go_wp2
  refine wp_loop_rounds 4 ?_
  rw [rounds_succ]
  go_wp2
  go_region
  go_wp2
  rw [rounds_succ]
  go_wp2
  go_region
  go_wp2
  rw [rounds_succ]
  go_wp2
  go_region
  go_wp2
  rw [rounds_succ]
  go_wp2
  go_ret
  refine ⟨rfl, ?_⟩
  repeat' (first | exact New.refl _ | refine New.alloc ?_ _ | refine New.drew ?_ | refine New.drewN ?_ _ | refine New.setRow ?_ (by omega) _ | refine New.setCell ?_ (by first | omega | (simp; done) | (simp; omega)) _)
end Go.Proofs.Ytpofhbdnjecfjaa

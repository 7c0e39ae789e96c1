/- Pictures whose errors are spread: the parts of a cell, plain; no condition. -/
import Derived.Test.YtpofhbdnjecfjaaSpr
import Derived.Test.YtpofhbdnjecfjaaPicOf
import Derived.Test.YtpofhbdnjecfjaaMovT
set_option linter.unusedVariables false
namespace Go.Proofs.Ytpofhbdnjecfjaa
open Go.BigFrame
open Go.RowKit Go.Arr
theorem l00In_k {k : Bool} {n lo hi : Int} (h : inB n lo hi = k) (w : World) : Calls Try.prog 23 #[.int .i64 n, .int .i64 lo, .int .i64 hi] w fun e w' => e = .returned (.bool k) ∧ w = w' := by
  subst h
  exact l00In_any n lo hi w
theorem l00In_n {k : Bool} {n lo hi : Int} (h : inB n lo hi = k) (w : World) : Calls Try.prog 23 #[.int .i64 n, .int .i64 lo, .int .i64 hi] w fun e w' => e = .returned (.bool k) ∧ New w w' :=
  (l00In_k h w).mono fun _ _ ⟨h1, h2⟩ => ⟨h1, by subst h2; exact New.refl _⟩
theorem okImg_ab {a b : Int} {fm : Nat → Int} (h : okImg a b fm = true) : (1 ≤ a ∧ a ≤ 12) ∧ (1 ≤ b ∧ b ≤ 12) := by
  cases h1 : isSizeB a b
  · rw [okImg_size a b fm h1] at h; cases h
  · unfold isSizeB at h1
    rw [Bool.and_eq_true] at h1
    exact ⟨inB_t.1 h1.1, inB_t.1 h1.2⟩
/-- the parts, as the reference lays them -/
def qD (k : Nat) (j : Nat) : Int := if j % 3 = 0 then (k : Int) % 12 + dxD (j / 3) else if j % 3 = 1 then (k : Int) / 12 + dyD (j / 3) else wtD (j / 3)
theorem q_eq (k j : Nat) (hj : j < 12) : upd (upd (upd (upd (upd (upd (upd (upd (upd (upd (upd (upd (fun _ => 0) 0 ((k : Int) % 12 + 1)) 1 ((k : Int) / 12)) 2 7) 3 ((k : Int) % 12 - 1)) 4 ((k : Int) / 12 + 1)) 5 3) 6 ((k : Int) % 12)) 7 ((k : Int) / 12 + 1)) 8 5) 9 ((k : Int) % 12 + 1)) 10 ((k : Int) / 12 + 1)) 11 1 j = qD k j := by
  have h : j = 0 ∨ j = 1 ∨ j = 2 ∨ j = 3 ∨ j = 4 ∨ j = 5 ∨ j = 6 ∨ j = 7 ∨ j = 8 ∨ j = 9 ∨ j = 10 ∨ j = 11 := by omega
  rcases h with rfl | rfl | rfl | rfl | rfl | rfl | rfl | rfl | rfl | rfl | rfl | rfl <;> simp [upd, qD, dxD, dyD, wtD] <;> omega
theorem qD_0 (k d : Nat) : qD k (d * 3) = (k : Int) % 12 + dxD d := by unfold qD; rw [if_pos (by omega), show d * 3 / 3 = d by omega]
theorem qD_1 (k d : Nat) : qD k (d * 3 + 1) = (k : Int) / 12 + dyD d := by unfold qD; rw [if_neg (by omega), if_pos (by omega), show (d * 3 + 1) / 3 = d by omega]
theorem qD_2 (k d : Nat) : qD k (d * 3 + 2) = wtD d := by unfold qD; rw [if_neg (by omega), if_neg (by omega), show (d * 3 + 2) / 3 = d by omega]
theorem spS_skip {a b : Int} {k d K : Nat} {F e : Nat → Int} (h : inD a b k d = false) : arr 432 .i64 (spS (fun d' k' => decide (k' < K) || (k' == K && decide (d' < d))) a b k F e) = arr 432 .i64 (spS (fun d' k' => decide (k' < K) || (k' == K && decide (d' < d + 1))) a b k F e) :=
  arr_congr fun j _ => spS_congr (fun d' k' _ _ hi => by
    by_cases e1 : d' = d
    · subst e1; rw [h] at hi; cases hi
    · have : decide (d' < d) = decide (d' < d + 1) := by rw [decide_eq_decide]; omega
      rw [this]) j
theorem spS_done {a b : Int} {k d K : Nat} {F e : Nat → Int} (hd : d < 4) (hK : K < 3) (h : inD a b k d = true) : arr 432 .i64 (upd (spS (fun d' k' => decide (k' < K) || (k' == K && decide (d' < d))) a b k F e) (tgD k d * 3 + K) (vlD F e k d K)) = arr 432 .i64 (spS (fun d' k' => decide (k' < K) || (k' == K && decide (d' < d + 1))) a b k F e) :=
  arr_congr fun j _ => (spS_upd hd hK h j).trans (spS_congr (fun d' k' _ _ _ => by
    by_cases e1 : k' = K
    · subst e1
      have : (decide (d' < d) || d' == d) = decide (d' < d + 1) := by
        by_cases h1 : d' = d
        · subst h1; simp
        · rw [show (d' == d) = false by simpa using h1, Bool.or_false, decide_eq_decide]; omega
      simp [← this]
    · have : (k' == K) = false := by simpa using e1
      simp [this]) j)
theorem vlD_e (F e : Nat → Int) (n d k : Nat) : vlD F e n d k = wrap64 (F (tgD n d * 3 + k) + wrap64 (wtD d * e k) / 16) := rfl
theorem dD_b (d : Nat) : (-1 ≤ dxD d ∧ dxD d ≤ 1) ∧ (0 ≤ dyD d ∧ dyD d ≤ 1) ∧ (1 ≤ wtD d ∧ wtD d ≤ 7) := by
  unfold dxD dyD wtD
  refine ⟨?_, ?_, ?_⟩ <;> (repeat' split) <;> omega
theorem tgD_i (k d : Nat) (hd : d < 4) : ((k : Int) % 12 + dxD d) + 12 * ((k : Int) / 12 + dyD d) = (tgD k d : Nat) := by
  have h3 : d = 0 ∨ d = 1 ∨ d = 2 ∨ d = 3 := by omega
  rcases h3 with rfl | rfl | rfl | rfl <;> simp [tgD, dxD, dyD] <;> omega
end Go.Proofs.Ytpofhbdnjecfjaa

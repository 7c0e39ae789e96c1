/- How many cells have each colour; no condition. -/
import Derived.Test.YtpofhbdnjecfjaaWithCol
import Derived.Test.YtpofhbdnjecfjaaEqP
set_option linter.unusedVariables false
namespace Go.Proofs.Ytpofhbdnjecfjaa
open Go.BigFrame
open Go.RowKit Go.Arr
def cntU (T : Nat → Bool) (v : Nat → Nat) : Nat → Nat → Int
  | 0 => fun _ => 0
  | k + 1 => if T k = true then upd (cntU T v k) (v k) (cntU T v k (v k) + 1) else cntU T v k
theorem cntU_le (T : Nat → Bool) (v : Nat → Nat) (k j : Nat) : 0 ≤ cntU T v k j ∧ cntU T v k j ≤ k := by
  induction k generalizing j with
  | zero => unfold cntU; omega
  | succ k ih =>
    unfold cntU
    by_cases h : T k = true
    · rw [if_pos h]
      unfold upd
      have h1 := ih j
      have h2 := ih (v k)
      by_cases e : j = v k
      · rw [if_pos e]; omega
      · rw [if_neg e]; omega
    · rw [if_neg h]
      have h1 := ih j
      omega
theorem cntU_skip (T : Nat → Bool) (v : Nat → Nat) (k m : Nat) (h : ∀ i, k ≤ i → i < k + m → T i = false) : cntU T v (k + m) = cntU T v k := by
  induction m with
  | zero => rfl
  | succ m ih =>
    show cntU T v (k + m + 1) = _
    rw [cntU, if_neg (by rw [h (k + m) (by omega) (by omega)]; simp), ih (fun i h1 h2 => h i h1 (by omega))]
def cntF (a b : Int) (f : Nat → Int) : Nat → Nat → Int := cntU (fun i => cellB i a b) (fun i => (f i).toNat)
theorem cellB_iff {a b : Int} {x y : Nat} (hx : x < 12) (hxy : x + 12 * y < 144) : cellB (x + 12 * y : Nat) a b = true ↔ (x : Int) < a ∧ (y : Int) < b := by
  rw [cellB_t hxy]
  unfold inside
  omega
theorem cntF_step {a b : Int} {f : Nat → Int} {x y : Nat} (ha : a ≤ 12) (hb : b ≤ 12) (hx : (x : Int) < a) (hy : (y : Int) < b) : cntF a b f (x + 1 + 12 * y) = upd (cntF a b f (x + 12 * y)) (f (x + 12 * y)).toNat (cntF a b f (x + 12 * y) (f (x + 12 * y)).toNat + 1) := by
  have e : x + 1 + 12 * y = (x + 12 * y) + 1 := by omega
  rw [e]
  show cntU _ _ (x + 12 * y + 1) = _
  rw [cntU, if_pos ((cellB_iff (by omega) (by omega)).2 ⟨hx, hy⟩)]
  rfl
theorem cntF_row {a b : Int} {f : Nat → Int} {x y : Nat} (ha : 0 ≤ a ∧ a ≤ 12) (hb : b ≤ 12) (hx : (x : Int) = a) (hy : (y : Int) < b) : cntF a b f (0 + 12 * (y + 1)) = cntF a b f (x + 12 * y) := by
  have e : 0 + 12 * (y + 1) = (x + 12 * y) + (12 - x) := by omega
  rw [e]
  refine cntU_skip _ _ _ _ fun i h1 h2 => ?_
  have e2 : i = (i - 12 * y) + 12 * y := by omega
  cases hc : cellB (i : Nat) a b with
  | false => rfl
  | true =>
    have hc2 : cellB ((i - 12 * y) + 12 * y : Nat) a b = true := by rw [← e2]; exact hc
    have := (cellB_iff (x := i - 12 * y) (y := y) (a := a) (b := b) (by omega) (by omega)).1 hc2
    omega
theorem cntF_all {a b : Int} {f : Nat → Int} {y : Nat} (ha : a ≤ 12) (hb : 0 ≤ b ∧ b ≤ 12) (hy : (y : Int) = b) : cntF a b f 144 = cntF a b f (0 + 12 * y) := by
  have e : 144 = (0 + 12 * y) + (144 - 12 * y) := by omega
  conv => lhs; rw [e]
  refine cntU_skip _ _ _ _ fun i h1 h2 => ?_
  cases hc : cellB (i : Nat) a b with
  | false => rfl
  | true =>
    have hi := (cellB_t (by omega)).1 hc
    unfold inside at hi
    omega
def cntA (a b : Int) (f : Nat → Int) : Value := if okPic a b f = true then .tuple #[.agg (arr 16 .i64 (cntF a b f 144)), .int .i64 0] else .tuple #[.agg (arr 16 .i64 fun _ => 0), .int .i64 1]
end Go.Proofs.Ytpofhbdnjecfjaa

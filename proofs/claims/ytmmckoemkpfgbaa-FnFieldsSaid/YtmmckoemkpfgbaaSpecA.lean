/- The reference's pictures in other places; no condition. -/
import Derived.Test.YtmmckoemkpfgbaaValid
import Derived.Test.YtmmckoemkpfgbaaPaint
set_option linter.unusedVariables false
namespace Go.Proofs.Ytmmckoemkpfgbaa
open Go.BigFrame
open Go.RowKit Go.Arr
theorem cellB_t {i : Nat} {a b : Int} (hi : i < 144) : cellB i a b = true ↔ inside a b i := by
  unfold cellB inside
  have : inB i 0 143 = true := inB_t.2 (by omega)
  rw [this, Bool.true_and, Bool.and_eq_true, decide_eq_true_iff, decide_eq_true_iff]
/-- what is painted in the end, out of what is filled cell by cell -/
theorem fold_paint (a b : Int) (ha : 1 ≤ a ∧ a ≤ 12) (hb : 1 ≤ b ∧ b ≤ 12) (dst src : Nat → Nat) (val : Nat → Int) (h : Int → Int → Int) (a' b' : Int)
    (H1 : ∀ i, i < 144 → inside a b i → inside a' b' (dst i) ∧ dst i < 144 ∧ src (dst i) = i ∧ val i = h ((dst i : Int) % 12) ((dst i : Int) / 12))
    (H2 : ∀ j, j < 144 → inside a' b' j → inside a b (src j) ∧ src j < 144 ∧ dst (src j) = j) (j : Nat) (hj : j < 144) :
    fold (fun _ => 0) (fun i => cellB i a b) dst val 144 j = paint a' b' h j := by
  rw [fold_at _ _ dst src val 144 (fun i hi ht => (H1 i hi ((cellB_t hi).1 ht)).2.2.1)]
  unfold paint
  by_cases hc : inside a' b' j
  · obtain ⟨h1, h2, h3⟩ := H2 j hj hc
    obtain ⟨_, _, _, h7⟩ := H1 (src j) h2 h1
    rw [if_pos ⟨h2, (cellB_t h2).2 h1, h3⟩, if_pos hc, h7, h3]
  · rw [if_neg hc, if_neg]
    rintro ⟨h1, h2, h3⟩
    have h4 := (H1 (src j) h1 ((cellB_t h1).1 h2)).1
    rw [h3] at h4
    exact hc h4
def mirH (a : Int) (f : Nat → Int) (x y : Int) : Int := f (a - 1 - x + 12 * y).toNat
def mirD (a : Int) (i : Nat) : Nat := ((i : Int) - 2 * ((i : Int) % 12) + a).toNat - 1
theorem mir_end (a b : Int) (f : Nat → Int) (ha : 1 ≤ a ∧ a ≤ 12) (hb : 1 ≤ b ∧ b ≤ 12) (j : Nat) (hj : j < 144) :
    fold (fun _ => 0) (fun i => cellB i a b) (mirD a) f 144 j = paint a b (mirH a f) j := by
  refine fold_paint a b ha hb (mirD a) (mirD a) f (mirH a f) a b ?_ ?_ j hj
  · intro i hi hin
    unfold inside at hin ⊢
    unfold mirD mirH
    refine ⟨by omega, by omega, by omega, ?_⟩
    congr 1
    omega
  · intro i hi hin
    unfold inside at hin ⊢
    unfold mirD
    refine ⟨by omega, by omega, by omega⟩
def flipH (b : Int) (f : Nat → Int) (x y : Int) : Int := f (x + 12 * (b - 1 - y)).toNat
def flipD (b : Int) (i : Nat) : Nat := ((i : Int) % 12 + 12 * (b - 1 - (i : Int) / 12)).toNat
theorem flip_end (a b : Int) (f : Nat → Int) (ha : 1 ≤ a ∧ a ≤ 12) (hb : 1 ≤ b ∧ b ≤ 12) (j : Nat) (hj : j < 144) :
    fold (fun _ => 0) (fun i => cellB i a b) (flipD b) f 144 j = paint a b (flipH b f) j := by
  refine fold_paint a b ha hb (flipD b) (flipD b) f (flipH b f) a b ?_ ?_ j hj
  · intro i hi hin
    unfold inside at hin ⊢
    unfold flipD flipH
    refine ⟨by omega, by omega, by omega, ?_⟩
    congr 1
    omega
  · intro i hi hin
    unfold inside at hin ⊢
    unfold flipD
    refine ⟨by omega, by omega, by omega⟩
end Go.Proofs.Ytmmckoemkpfgbaa

/- The reference's turned picture, and what it answers for pictures that are mirrored, flipped or turned; no condition. -/
import Derived.Test.YtmmckoemkpfgbaaSpecA
set_option linter.unusedVariables false
namespace Go.Proofs.Ytmmckoemkpfgbaa
open Go.BigFrame
open Go.RowKit Go.Arr
def turnH (b : Int) (f : Nat → Int) (x y : Int) : Int := f (y + 12 * (b - 1 - x)).toNat
def turnV (b : Int) (f : Nat → Int) (i : Nat) : Int := turnH b f ((i : Int) % 12) ((i : Int) / 12)
theorem id_end (a b : Int) (ha : 1 ≤ a ∧ a ≤ 12) (hb : 1 ≤ b ∧ b ≤ 12) (h : Int → Int → Int) (val : Nat → Int) (hv : ∀ i, i < 144 → inside a b i → val i = h ((i : Int) % 12) ((i : Int) / 12)) (j : Nat) (hj : j < 144) :
    fold (fun _ => 0) (fun i => cellB i a b) (fun i => i) val 144 j = paint a b h j :=
  fold_paint a b ha hb (fun i => i) (fun i => i) val h a b (fun i hi hin => ⟨hin, hi, rfl, hv i hi hin⟩) (fun i hi hin => ⟨hin, hi, rfl⟩) j hj
structure PicAns where
  c : Int
  w : Int
  h : Int
  f : Nat → Int
def noPic (c : Int) : PicAns := ⟨c, 0, 0, fun _ => 0⟩
def mirA (a b : Int) (f : Nat → Int) : PicAns := if okPic a b f = true then ⟨0, a, b, paint a b (mirH a f)⟩ else noPic 1
def flipA (a b : Int) (f : Nat → Int) : PicAns := if okPic a b f = true then ⟨0, a, b, paint a b (flipH b f)⟩ else noPic 1
def turnA (a b : Int) (f : Nat → Int) : PicAns := if okPic a b f = true then ⟨0, b, a, paint b a (turnH b f)⟩ else noPic 1
theorem okPic_dims {a b : Int} {f : Nat → Int} (h : okPic a b f = true) : (1 ≤ a ∧ a ≤ 12) ∧ (1 ≤ b ∧ b ≤ 12) := by
  unfold okPic isSizeB at h
  simp only [Bool.and_eq_true] at h
  exact ⟨inB_t.1 h.1.1, inB_t.1 h.1.2⟩
theorem okPic_cell {a b : Int} {f : Nat → Int} (h : okPic a b f = true) (i : Nat) (hi : i < 144) : f i < 16 ∧ (inside a b i ∨ f i = 0) := by
  unfold okPic at h
  simp only [Bool.and_eq_true, List.all_eq_true] at h
  have h2 := h.2 i (by simpa using hi)
  unfold goodAt at h2
  simp only [Bool.and_eq_true, Bool.or_eq_true, decide_eq_true_iff] at h2
  exact ⟨h2.1, h2.2.imp (cellB_t hi).1 id⟩
end Go.Proofs.Ytmmckoemkpfgbaa

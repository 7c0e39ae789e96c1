/- The picture of an image with the tones of a palette: the reference and the program answer alike; no condition. -/
import Derived.Test.YtnaecghpahbojaaDoorSel
import Derived.Test.YtnaecghpahbojaaDoorNear
import Derived.Test.YtnaecghpahbojaaDoorInts
set_option linter.unusedVariables false
namespace Go.Proofs.YtnaecghpahbojaaDoor
open Go.BigFrame
open Go.RowKit Go.Arr
def nearC (n : Nat) (fp fm : Nat → Int) (i : Nat) : Int := (nearK fp (fm (i * 3)) (fm (i * 3 + 1)) (fm (i * 3 + 2)) n).1 + 1
def stepP (n : Nat) (fp fm : Nat → Int) (q : Nat → Int) (i : Nat) : Nat → Int := upd q i (nearC n fp fm i)
def picS (n : Nat) (fp fm : Nat → Int) (a b : Int) : Nat → Nat → Int := recS (stepP n fp fm) (fun _ => 0) (cellN a b)
theorem nearC_b (n : Nat) (fp fm : Nat → Int) (i : Nat) (hn : n ≤ 15) : 0 ≤ nearC n fp fm i ∧ nearC n fp fm i ≤ 16 := by
  have := nearK_le fp (fm (i * 3)) (fm (i * 3 + 1)) (fm (i * 3 + 2)) n
  unfold nearC
  omega
def askOk (a b : Int) (fm : Nat → Int) (n : Nat) (fp : Nat → Int) : Bool := okImg a b fm && okPal n fp
def pofA (a b : Int) (fm : Nat → Int) (n : Nat) (fp : Nat → Int) : Array Value := if askOk a b fm n fp = true then pic 144 a b (picS n fp fm a b 144) else pic 144 0 0 fun _ => 0
def pofC (a b : Int) (fm : Nat → Int) (n : Nat) (fp : Nat → Int) : Int := if askOk a b fm n fp = true then 0 else 1
theorem pof_t {a b : Int} {fm : Nat → Int} {n : Nat} {fp : Nat → Int} (h : askOk a b fm n fp = true) : pofA a b fm n fp = pic 144 a b (picS n fp fm a b 144) ∧ pofC a b fm n fp = 0 := ⟨if_pos h, if_pos h⟩
theorem pof_f {a b : Int} {fm : Nat → Int} {n : Nat} {fp : Nat → Int} (h : askOk a b fm n fp = false) : (pofA a b fm n fp = pic 144 0 0 fun _ => 0) ∧ pofC a b fm n fp = 1 := ⟨if_neg (by simp [h]), if_neg (by simp [h])⟩
theorem askOk_e {a b : Int} {fm : Nat → Int} {n : Nat} {fp : Nat → Int} (h : askOk a b fm n fp = true) : okImg a b fm = true ∧ okPal n fp = true := by
  unfold askOk at h
  exact Bool.and_eq_true _ _ ▸ h
theorem picT (n : Nat) (fp fm : Nat → Int) (a b : Int) : recT (stepP n fp fm) (fun _ => 0) (selG (cellN a b) 144) (selN (cellN a b) 144) = picS n fp fm a b 144 := rec_eq (Nat.le_refl _)
end Go.Proofs.YtnaecghpahbojaaDoor
